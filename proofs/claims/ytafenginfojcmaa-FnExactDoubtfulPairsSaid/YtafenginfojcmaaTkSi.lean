/- The laws' helpers: sightings. -/
import Derived.Test.YtafenginfojcmaaNest
import Derived.Test.YtafenginfojcmaaTkI
set_option maxRecDepth 8000
set_option linter.unusedSimpArgs false
set_option linter.unusedVariables false
namespace Go.Proofs.Ytafenginfojcmaa
open Go Go.RowKit

set_option maxHeartbeats 2000000
theorem Stop.go {X : Prop} {u : UnitOf X} (h : Stop X u) : X := h

/-- a sighting's cells, its numbers in block c -/
def siCells (c : Nat) (s : Si) : List AC := [.int .i64 s.id, .int .i64 s.year, .str s.town, .sl c 0 s.traits.length]
/-- a new list of sightings: all that it names is new, and each row but once -/
structure NewSi (lo : Nat) (H' : AHeap) (b : Nat) (ps : List Si) : Prop where
  ge : lo ≤ b
  tx : ∀ p ∈ ps, p.town.length ≤ 9223372036854775807
  ex : ∃ cs : List Nat, cs.length = ps.length ∧ cs.Nodup ∧ (∀ c ∈ cs, lo ≤ c ∧ c ≠ b) ∧ H'.b b = some ⟨51, 4, false, false, List.zipWith siCells cs ps⟩ ∧ ∀ (j c : Nat) (p : Si), cs[j]? = some c → ps[j]? = some p → H'.b c = some (rowK eI 3 p.traits)

def q_toSi : Con := fun args H K => match args with
  | [.agg p_e] => onv (eSi.dec H p_e) fun p => p.traits.length ≤ 1048576 ∧ K (.agg (siCells H.n p)) (H.push (rowK eI 3 p.traits))
  | _ => False
@[simp ↓] theorem q_toSi_eq (p_e : List AC) (H : AHeap) (K : AV → AHeap → Prop) : q_toSi [.agg p_e] H K = (onv (eSi.dec H p_e) fun p => p.traits.length ≤ 1048576 ∧ K (.agg (siCells H.n p)) (H.push (rowK eI 3 p.traits))) := rfl

theorem laws_toSighting_s : Sound Try.prog 47 q_toSi := by
  intro args H K h
  unfold q_toSi at h
  split at h
  rotate_left
  all_goals first | exact False.elim h | skip
  rename_i p_e
  have h1 := onv_iff.1 h
  clear h
  obtain ⟨p, hd_p, h⟩ := h1
  obtain ⟨b_p, i_p, k_p, rfl, hat_p, htx_p⟩ := eSi_at hd_p
  have hE := soundE_cons laws_toIntS_s (soundE_nil (P := Try.prog))
  refine acalls_fn laws_toSighting_k hE ⟨by simp, fun hwf => ?_⟩
  have hsr : SubE H H := SubE.refl H
  have hsp : ∀ H' k, H.n ≤ H'.n → SubE H H' → SubE H (H'.push k) := fun H' k hn hs => SubE.push hwf hn hs k
  have hst : ∀ H', SubE H H' → SubE H H'.toRo := fun H' hs => hs.toRo
  have hss : ∀ H' i k, H.n ≤ i → SubE H H' → SubE H (H'.set i k) := fun H' i k hn hs => SubE.set hwf hn hs k
  have hsk : ∀ H' i, H.n ≤ i → SubE H H' → SubE H (H'.kill i) := fun H' i hn hs => SubE.kill hwf hn hs
  have hb_p : b_p < H.n := (hwf b_p k_p hat_p.blk).1
  have hne_p : (b_p = H.n) = False := eq_false (by omega)
  have hne1_p : ∀ i, (b_p = H.n + i) = False := fun i => eq_false (by omega)
  have hne2_p : (b_p = H.n + 1 + 1) = False ∧ (b_p = H.n + 1 + 1 + 1) = False ∧ (b_p = H.n + 1 + 1 + 1 + 1) = False ∧ (b_p = H.n + 1 + 1 + 1 + 1 + 1) = False ∧ (b_p = H.n + 1 + 1 + 1 + 1 + 1 + 1) = False ∧ (b_p = H.n + 1 + 1 + 1 + 1 + 1 + 1 + 1) = False ∧ (b_p = H.n + 1 + 1 + 1 + 1 + 1 + 1 + 1 + 1) = False ∧ (b_p = H.n + 1 + 1 + 1 + 1 + 1 + 1 + 1 + 1 + 1) = False ∧ (b_p = H.n + 1 + 1 + 1 + 1 + 1 + 1 + 1 + 1 + 1 + 1) = False ∧ (b_p = H.n + 1 + 1 + 1 + 1 + 1 + 1 + 1 + 1 + 1 + 1 + 1) = False ∧ (b_p = H.n + 1 + 1 + 1 + 1 + 1 + 1 + 1 + 1 + 1 + 1 + 1 + 1) = False := ⟨eq_false (by omega), eq_false (by omega), eq_false (by omega), eq_false (by omega), eq_false (by omega), eq_false (by omega), eq_false (by omega), eq_false (by omega), eq_false (by omega), eq_false (by omega), eq_false (by omega)⟩
  have hmx_p : p.traits.length ≤ 9223372036854775807 := by have h1 := (hwf b_p k_p hat_p.blk).2.2; have h2 := hat_p.len; omega
  obtain ⟨hl, h⟩ := h
  simp (config := {contextual := true, implicitDefEqProofs := false, maxSteps := 60000}) [-Int.not_le, -Int.not_lt, argsF, laws_toSighting_c, hat_p.blk, hat_p.esz, hat_p.len, hat_p.els, hne_p, hne1_p, hne2_p.1, hne2_p.2.1, hne2_p.2.2.1, hne2_p.2.2.2.1, hne2_p.2.2.2.2.1, hne2_p.2.2.2.2.2.1, hne2_p.2.2.2.2.2.2.1, hne2_p.2.2.2.2.2.2.2.1, hne2_p.2.2.2.2.2.2.2.2.1, hne2_p.2.2.2.2.2.2.2.2.2.1, hne2_p.2.2.2.2.2.2.2.2.2.2, htx_p, hsr, hsp, hst, hss, hsk]
  unfold siCells at h
  exact ⟨hl, (.one (c := some (H.n + 1 + 1 + 1)) hwf (by (repeat first | exact Sub.refl _ | refine Sub.push hwf ?_ _ | refine Sub.set hwf ?_ (by first | exact Nat.le_refl _ | omega | (simp only [push_n, set_n, kill_n]; omega)) _ | refine Sub.kill hwf ?_ (by first | exact Nat.le_refl _ | omega | (simp only [push_n, set_n, kill_n]; omega)))) ⟨by omega, by simp [push_b, set_b, kill_b, rowK]; done⟩ (plain_map (fun _ => rfl) _) (by simp [frOk, AV.okR, AV.ok1, AC.okR, AV.ren, AV.ren1, AC.ren, AFrame.get, pl1_old, *]; first | done | rfl | omega) h)⟩

@[simp] theorem si_eta (p : Si) : (⟨p.id, p.year, p.town, p.traits⟩ : Si) = p := (rfl)
def siZero : List AC := [.int .i64 0, .int .i64 0, .str [], .nils]
def siRow (n : Nat) (ps : List Si) (j : Nat) : List (List AC) := ps.mapIdx fun i p => if i < j then siCells (n + 1 + i) p else siZero
/-- the list as far as it has come -/
def siHeap (H : AHeap) (ps : List Si) (j : Nat) : AHeap := ⟨H.n + 1 + j, fun i => if i < H.n then H.b i else if i = H.n then some ⟨51, 4, false, false, siRow H.n ps j⟩ else if i < H.n + 1 + j then (ps[i - (H.n + 1)]?).map fun p => rowK eI 3 p.traits else none, H.I⟩
@[simp] theorem siHeap_n (H : AHeap) (ps : List Si) (j : Nat) : (siHeap H ps j).n = H.n + 1 + j := rfl
theorem siHeap_old {H : AHeap} (ps : List Si) (j : Nat) {b : Nat} (h : b < H.n) : (siHeap H ps j).b b = H.b b := by simp [siHeap, h]
@[simp] theorem siHeap_row (H : AHeap) (ps : List Si) (j : Nat) : (siHeap H ps j).b H.n = some ⟨51, 4, false, false, siRow H.n ps j⟩ := by simp [siHeap]
theorem siHeap_sub {H : AHeap} (hwf : H.WF) (ps : List Si) (j : Nat) : Sub H (siHeap H ps j) := ⟨⟨by simp; omega, fun b k hk => by rw [siHeap_old ps j (hwf b k hk).1]; exact hk⟩, rfl⟩
@[simp] theorem siRow_len (n : Nat) (ps : List Si) (j : Nat) : (siRow n ps j).length = ps.length := by simp [siRow]
theorem siRow_get (n : Nat) {ps : List Si} {j : Nat} (h : j < ps.length) : (siRow n ps j)[j]? = some siZero := by simp [siRow, h]
theorem siRow_set (n : Nat) {ps : List Si} {j : Nat} (h : j < ps.length) : (siRow n ps j).set j (siCells (n + 1 + j) ps[j]) = siRow n ps (j + 1) := by
  apply List.ext_getElem?
  intro i
  simp only [siRow, List.getElem?_set, List.getElem?_mapIdx, List.length_mapIdx]
  by_cases hij : j = i
  · subst hij; simp [h]
  · simp only [hij, if_false]
    cases hp : ps[i]? with
    | none => rfl
    | some p =>
      simp only [Option.map_some]
      have e : (i < j) = (i < j + 1) := propext ⟨fun h => by omega, fun h => by omega⟩
      simp only [e]
theorem siHeap_step (H : AHeap) {ps : List Si} {j : Nat} (h : j < ps.length) : ((siHeap H ps j).push (rowK eI 3 ps[j].traits)).set H.n ⟨51, 4, false, false, siRow H.n ps (j + 1)⟩ = siHeap H ps (j + 1) := by
  simp only [AHeap.push, AHeap.set, siHeap, AHeap.mk.injEq, and_true]
  refine ⟨by omega, ?_⟩
  funext i
  by_cases h1 : i = H.n
  · simp [h1]
  · simp only [h1, if_false]
    by_cases h2 : i = H.n + 1 + j
    · subst h2
      simp [h, show ¬ H.n + 1 + j < H.n by omega]
    · simp only [h2, if_false]
      by_cases h3 : i < H.n
      · simp [h3]
      · simp only [h3, if_false]
        by_cases h4 : i < H.n + 1 + j
        · simp [h4, show i < H.n + 1 + (j + 1) by omega]
        · simp [h4, show ¬ i < H.n + 1 + (j + 1) by omega]
theorem si_tx {H : AHeap} {b i : Nat} {k : ABlk} {ps : List Si} (h : eSi.At H b i k ps) : ∀ p ∈ ps, p.town.length ≤ 9223372036854775807 := fun p hp => by
  obtain ⟨j, hj, rfl⟩ := List.getElem_of_mem hp
  obtain ⟨e, h1, h2⟩ := h.get hj
  obtain ⟨_, _, _, _, _, h3⟩ := eSi_at h2
  exact h3
theorem siHeap_new (H : AHeap) (ps : List Si) (htx : ∀ p ∈ ps, p.town.length ≤ 9223372036854775807) : NewSi H.n (siHeap H ps ps.length) H.n ps := by
  refine ⟨Nat.le_refl _, htx, List.range' (H.n + 1) ps.length, by simp, List.nodup_range', fun c hc => ?_, ?_, fun j c p hc hp => ?_⟩
  · rw [List.mem_range'_1] at hc; omega
  · rw [siHeap_row]
    congr 2
    apply List.ext_getElem?
    intro i
    simp only [siRow, List.getElem?_mapIdx, List.getElem?_zipWith]
    cases hp : ps[i]? with
    | none => simp
    | some p =>
      have hi : i < ps.length := (List.getElem?_eq_some_iff.1 hp).1
      simp [hi]
  · have hj : j < ps.length := (List.getElem?_eq_some_iff.1 hp).1
    simp [hj] at hc
    subst hc
    show (if _ then _ else _) = _
    rw [if_neg (by omega), if_neg (by omega), if_pos (by omega), show H.n + 1 + j - (H.n + 1) = j by omega, hp]
    rfl

def q_toSiS : Con := fun args H K => match args with
  | [ps_v] => eSi.rd H (fun ps => ps.length ≤ 1048576 ∧ (∀ p ∈ ps, p.traits.length ≤ 1048576) ∧ Stop (∀ H' b, H'.WF → Sub H H' → NewSi H.n H' b ps → K (.c (.sl (b) (0) (ps.length))) H') ()) ps_v
  | _ => False
@[simp ↓] theorem q_toSiS_eq (ps_v : AV) (H : AHeap) (K : AV → AHeap → Prop) : q_toSiS [ps_v] H K = (eSi.rd H (fun ps => ps.length ≤ 1048576 ∧ (∀ p ∈ ps, p.traits.length ≤ 1048576) ∧ Stop (∀ H' b, H'.WF → Sub H H' → NewSi H.n H' b ps → K (.c (.sl (b) (0) (ps.length))) H') ()) ps_v) := rfl

theorem laws_toSightingS_s : Sound Try.prog 23 q_toSiS := by
  intro args H K h
  unfold q_toSiS at h
  split at h
  rotate_left
  all_goals first | exact False.elim h | skip
  rename_i ps_v
  have h1 := EncH.rd_at h
  clear h
  obtain ⟨b_ps, i_ps, k_ps, ps, rfl, hat_ps, h⟩ := h1
  have hE := soundE_cons laws_toSighting_s (soundE_nil (P := Try.prog))
  refine acalls_fn laws_toSightingS_k hE ⟨by simp, fun hwf => ?_⟩
  have hsr : SubE H H := SubE.refl H
  have hsp : ∀ H' k, H.n ≤ H'.n → SubE H H' → SubE H (H'.push k) := fun H' k hn hs => SubE.push hwf hn hs k
  have hst : ∀ H', SubE H H' → SubE H H'.toRo := fun H' hs => hs.toRo
  have hss : ∀ H' i k, H.n ≤ i → SubE H H' → SubE H (H'.set i k) := fun H' i k hn hs => SubE.set hwf hn hs k
  have hsk : ∀ H' i, H.n ≤ i → SubE H H' → SubE H (H'.kill i) := fun H' i hn hs => SubE.kill hwf hn hs
  have hon_ps := hat_ps.on
  have hb_ps : b_ps < H.n := (hwf b_ps k_ps hat_ps.blk).1
  have hne_ps : (b_ps = H.n) = False := eq_false (by omega)
  have hne1_ps : ∀ i, (b_ps = H.n + i) = False := fun i => eq_false (by omega)
  have hne2_ps : (b_ps = H.n + 1 + 1) = False ∧ (b_ps = H.n + 1 + 1 + 1) = False ∧ (b_ps = H.n + 1 + 1 + 1 + 1) = False ∧ (b_ps = H.n + 1 + 1 + 1 + 1 + 1) = False ∧ (b_ps = H.n + 1 + 1 + 1 + 1 + 1 + 1) = False ∧ (b_ps = H.n + 1 + 1 + 1 + 1 + 1 + 1 + 1) = False ∧ (b_ps = H.n + 1 + 1 + 1 + 1 + 1 + 1 + 1 + 1) = False ∧ (b_ps = H.n + 1 + 1 + 1 + 1 + 1 + 1 + 1 + 1 + 1) = False ∧ (b_ps = H.n + 1 + 1 + 1 + 1 + 1 + 1 + 1 + 1 + 1 + 1) = False ∧ (b_ps = H.n + 1 + 1 + 1 + 1 + 1 + 1 + 1 + 1 + 1 + 1 + 1) = False ∧ (b_ps = H.n + 1 + 1 + 1 + 1 + 1 + 1 + 1 + 1 + 1 + 1 + 1 + 1) = False := ⟨eq_false (by omega), eq_false (by omega), eq_false (by omega), eq_false (by omega), eq_false (by omega), eq_false (by omega), eq_false (by omega), eq_false (by omega), eq_false (by omega), eq_false (by omega), eq_false (by omega)⟩
  have hmx_ps : ps.length ≤ 9223372036854775807 := by have h1 := (hwf b_ps k_ps hat_ps.blk).2.2; have h2 := hat_ps.len; omega
  obtain ⟨hl, hl2, h⟩ := h
  have hl1 : (32 : Int) * (ps.length : Int) ≤ 140737488355328 := by omega
  have hl4 : (40 : Int) * (ps.length : Int) ≤ 140737488355328 := by omega
  have hl5 : (56 : Int) * (ps.length : Int) ≤ 140737488355328 := by omega
  have hl3 : (ps.length : Int) ≤ 140737488355328 := by omega
  simp (config := {contextual := true, implicitDefEqProofs := false, maxSteps := 60000}) [-Int.not_le, -Int.not_lt, argsF, laws_toSightingS_c, hat_ps.blk, hat_ps.esz, hat_ps.len, hon_ps, hne_ps, hne1_ps, hne2_ps.1, hne2_ps.2.1, hne2_ps.2.2.1, hne2_ps.2.2.2.1, hne2_ps.2.2.2.2.1, hne2_ps.2.2.2.2.2.1, hne2_ps.2.2.2.2.2.2.1, hne2_ps.2.2.2.2.2.2.2.1, hne2_ps.2.2.2.2.2.2.2.2.1, hne2_ps.2.2.2.2.2.2.2.2.2.1, hne2_ps.2.2.2.2.2.2.2.2.2.2, hsr, hsp, hst, hss, hsk, hl1, hl3, hl4, hl5]
  have hsub := fun j => siHeap_sub hwf ps j
  refine aloop_heap (X := Nat) (fun j => [(0, .c (.sl b_ps i_ps ps.length)), (3, .c (.sl (H.n) (0) (ps.length))), (4, .c (.int .i64 ((j : Int))))]) (fun j => siHeap H ps j) (fun j => j ≤ ps.length) (fun j => ps.length - j) hE _ 0 (Nat.zero_le _) (fun hw0 => ?_) (fun j hi hwj => ?_)
  · have e : H.push ⟨51, 4, false, false, List.replicate ps.length siZero⟩ = siHeap H ps 0 := by
      simp only [AHeap.push, siHeap, AHeap.mk.injEq, and_true]
      refine ⟨trivial, ?_⟩
      funext i
      by_cases h1 : i = H.n
      · have : siRow H.n ps 0 = List.replicate ps.length siZero := by
          apply List.ext_getElem?
          intro i
          simp only [siRow, List.getElem?_mapIdx, List.getElem?_replicate]
          cases hp : ps[i]? with
          | none => simp at hp; simp; omega
          | some p =>
            have hi : i < ps.length := (List.getElem?_eq_some_iff.1 hp).1
            simp [hi]
        simp [h1, this]
      · simp only [h1, if_false]
        by_cases h3 : i < H.n
        · simp [h3]
        · simp only [h3, if_false]
          rw [if_neg (by omega)]
          cases hb : H.b i with
          | none => rfl
          | some k => exact absurd (hwf i k hb).1 h3
    unfold siZero at e
    rw [e] at hw0 ⊢
    exact .since (by simp only [siHeap_n]; omega) hw0 (.refl _) (by simp [frOk, AV.okR, AV.ok1, AC.okR, AV.ren, AV.ren1, AC.ren, AFrame.get, pl1_old, *]; first | done | rfl | omega)
  · rcases Nat.lt_or_ge j ps.length with hlt | hge
    · have hj1 := idx_lt hlt
      have w1 : IntKind.i64.wrap ((j : Int) + 1) = (j : Int) + 1 := wrap_id (by omega) (by omega)
      obtain ⟨ex_x, e_x, hd_x⟩ := hat_ps.get hlt
      obtain ⟨b_x, i_x, k_x, rfl, hat_x, htx_x⟩ := eSi_at hd_x
      have hb_x : b_x < H.n := (hwf b_x k_x hat_x.blk).1
      have hne_x : (b_x = H.n) = False := eq_false (by omega)
      have hne1_x : ∀ i, (b_x = H.n + i) = False := fun i => eq_false (by omega)
      have hne2_x : (b_x = H.n + 1 + 1) = False ∧ (b_x = H.n + 1 + 1 + 1) = False ∧ (b_x = H.n + 1 + 1 + 1 + 1) = False ∧ (b_x = H.n + 1 + 1 + 1 + 1 + 1) = False ∧ (b_x = H.n + 1 + 1 + 1 + 1 + 1 + 1) = False ∧ (b_x = H.n + 1 + 1 + 1 + 1 + 1 + 1 + 1) = False ∧ (b_x = H.n + 1 + 1 + 1 + 1 + 1 + 1 + 1 + 1) = False ∧ (b_x = H.n + 1 + 1 + 1 + 1 + 1 + 1 + 1 + 1 + 1) = False ∧ (b_x = H.n + 1 + 1 + 1 + 1 + 1 + 1 + 1 + 1 + 1 + 1) = False ∧ (b_x = H.n + 1 + 1 + 1 + 1 + 1 + 1 + 1 + 1 + 1 + 1 + 1) = False ∧ (b_x = H.n + 1 + 1 + 1 + 1 + 1 + 1 + 1 + 1 + 1 + 1 + 1 + 1) = False := ⟨eq_false (by omega), eq_false (by omega), eq_false (by omega), eq_false (by omega), eq_false (by omega), eq_false (by omega), eq_false (by omega), eq_false (by omega), eq_false (by omega), eq_false (by omega), eq_false (by omega)⟩
      have hlx : ps[j].traits.length ≤ 1048576 := hl2 _ (List.getElem_mem hlt)
      have hbps : (siHeap H ps j).b b_ps = some k_ps := by rw [siHeap_old ps j hb_ps]; exact hat_ps.blk
      have hbx : (siHeap H ps j).b b_x = some k_x := by rw [siHeap_old ps j hb_x]; exact hat_x.blk
      have hn1 : (H.n = H.n + 1 + j) = False := eq_false (by omega)
      have hst := siHeap_step H hlt
      simp (config := {contextual := true, implicitDefEqProofs := false, maxSteps := 60000}) [-Int.not_le, -Int.not_lt, argsF, laws_toSightingS_l0, hbps, hat_ps.esz, hat_ps.len, hbx, hat_x.esz, hat_x.len, hat_x.els, htx_x, e_x, hj1, w1, hlt, hlx, hn1, siRow_set]
      refine ⟨rfl, ?_⟩
      rw [hst]
      exact ⟨fun hw => ⟨j + 1, by omega, by omega, .since (by simp only [siHeap_n]; omega) hw (.refl _) (by simp [frOk, AV.okR, AV.ok1, AC.okR, AV.ren, AV.ren1, AC.ren, AFrame.get, pl1_old, *]; first | done | rfl | omega)⟩⟩
    · have e : j = ps.length := by omega
      subst e
      simp (config := {contextual := true, implicitDefEqProofs := false, maxSteps := 60000}) [-Int.not_le, -Int.not_lt, argsF, laws_toSightingS_l0]
      exact Out.whole (by simp only [siHeap_n]; omega) (by simp [frOk, AV.okR, AV.ok1, AC.okR, AV.ren, AV.ren1, AC.ren, AFrame.get, pl1_old, *]; first | done | rfl | omega) fun hw => Stop.go h _ _ hw (hsub _) (siHeap_new H ps (si_tx hat_ps))

theorem NewSi.sub {lo : Nat} {H H' : AHeap} {b : Nat} {ps : List Si} (h : NewSi lo H b ps) (hs : Sub H H') : NewSi lo H' b ps := by
  obtain ⟨cs, h1, h2, h3, h4, h5⟩ := h.ex
  exact ⟨h.ge, h.tx, cs, h1, h2, h3, hs.1.2 _ _ h4, fun j c p hc hp => hs.1.2 _ _ (h5 j c p hc hp)⟩
theorem Sub.trans {H H' H'' : AHeap} (h : Sub H H') (h' : Sub H' H'') : Sub H H'' := ⟨⟨Nat.le_trans h.1.1 h'.1.1, fun b k hk => h'.1.2 b k (h.1.2 b k hk)⟩, h.2.trans h'.2⟩
theorem EncH.decL_zip {α : Type} (E : EncH α) {H : AHeap} (f : Nat → α → List AC) : ∀ (cs : List Nat) (ps : List α), cs.length = ps.length → (∀ (j c : Nat) (p : α), cs[j]? = some c → ps[j]? = some p → E.dec H (f c p) = some p) → E.decL H (List.zipWith f cs ps) = some ps
  | [], [], _, _ => rfl
  | c :: cs, p :: ps, hl, h => by
    have h0 := h 0 c p rfl rfl
    have hr := E.decL_zip f cs ps (by simpa using hl) fun j c' p' hc hp => h (j + 1) c' p' (by simpa using hc) (by simpa using hp)
    simp only [List.zipWith_cons_cons, EncH.decL, h0, hr]
  | [], _ :: _, h, _ => by simp at h
  | _ :: _, [], h, _ => by simp at h
theorem eSi_cells {H : AHeap} {c : Nat} {p : Si} (hb : H.b c = some (rowK eI 3 p.traits)) (ht : p.town.length ≤ 9223372036854775807) : eSi.dec H (siCells c p) = some p := by
  simp only [eSi, siCells]
  rw [if_pos ht]
  simp [rdI, hb]
theorem NewSi.at {lo : Nat} {H : AHeap} {b : Nat} {ps : List Si} (h : NewSi lo H b ps) : ∃ k, eSi.At H b 0 k ps ∧ k.els.length = ps.length := by
  obtain ⟨cs, h1, h2, h3, h4, h5⟩ := h.ex
  refine ⟨_, ⟨h4, rfl, by simp [h1], ?_⟩, by simp [h1]⟩
  have hd := eSi.decL_zip (H := H) siCells cs ps h1 fun j c p hc hp => eSi_cells (h5 j c p hc hp) (h.tx p (List.mem_of_getElem? hp))
  have hl : (List.zipWith siCells cs ps).length = ps.length := by simp [h1]
  simpa [hl, List.take_of_length_le] using hd
theorem EncH.At.sub {α : Type} {E : EncH α} {H H' : AHeap} {b i : Nat} {k : ABlk} {l : List α} (h : E.At H b i k l) (hs : Sub H H') : E.At H' b i k l := ⟨hs.1.2 _ _ h.blk, h.esz, h.len, E.decL_mono (SubE.of_sub hs) h.els⟩
/-- how many numbers and bytes a list may still have -/
def szSi (p : Si) (l : Int) : Int := if l - (p.town.length : Int) < 0 then -1 else if l - (p.town.length : Int) - (p.traits.length : Int) < 0 then -1 else l - (p.town.length : Int) - (p.traits.length : Int)
def szSiGo : List Si → Int → Int
  | [], l => l
  | p :: r, l => if szSi p l < 0 then -1 else szSiGo r (szSi p l)
def szSis (ps : List Si) (l : Int) : Int := if l - (ps.length : Int) < 0 then -1 else szSiGo ps (l - (ps.length : Int))
theorem szSi_le (p : Si) {l : Int} (h : 0 ≤ szSi p l) : szSi p l ≤ l ∧ (p.traits.length : Int) ≤ l := by
  unfold szSi at *
  split at h
  · omega
  · split at h
    · omega
    · rename_i h1 h2; rw [if_neg h1, if_neg h2]; omega
theorem szSiGo_ok : ∀ (ps : List Si) (l : Int), 0 ≤ szSiGo ps l → ∀ p ∈ ps, (p.traits.length : Int) ≤ l
  | [], _, _, p, hp => by cases hp
  | q :: r, l, h, p, hp => by
    simp only [szSiGo] at h
    split at h
    · omega
    · rename_i h1
      have h2 := szSi_le q (l := l) (by omega)
      rcases List.mem_cons.1 hp with rfl | hp
      · exact h2.2
      · have := szSiGo_ok r _ h p hp; omega
theorem szSis_ok {ps : List Si} (h : 0 ≤ szSis ps 1048576) : ps.length ≤ 1048576 ∧ ∀ p ∈ ps, p.traits.length ≤ 1048576 := by
  unfold szSis at h
  split at h
  · omega
  · refine ⟨by omega, fun p hp => ?_⟩
    have := szSiGo_ok ps _ h p hp
    omega

def q_szSInt : Con := fun args H K => match args with
  | [.c (.sl ps_b ps_i ps), .c (.int .i64 l)] => 0 ≤ l ∧ l ≤ 1048576 ∧ ps ≤ 9223372036854775807 ∧ K (.c (.int .i64 (if l - (ps : Int) < 0 then -1 else l - (ps : Int)))) H
  | _ => False
@[simp ↓] theorem q_szSInt_eq (ps_b ps_i ps : Nat) (l : Int) (H : AHeap) (K : AV → AHeap → Prop) : q_szSInt [.c (.sl ps_b ps_i ps), .c (.int .i64 l)] H K = (0 ≤ l ∧ l ≤ 1048576 ∧ ps ≤ 9223372036854775807 ∧ K (.c (.int .i64 (if l - (ps : Int) < 0 then -1 else l - (ps : Int)))) H) := rfl

theorem laws_szIntS_s : Sound Try.prog 69 q_szSInt := by
  intro args H K h
  unfold q_szSInt at h
  split at h
  rotate_left
  all_goals first | exact False.elim h | skip
  rename_i ps_b ps_i ps l
  have hE := soundE_nil (P := Try.prog)
  refine acalls_fn laws_szIntS_k hE ⟨by simp, fun hwf => ?_⟩
  obtain ⟨hl1, hl2, hl3, h⟩ := h
  have hw : IntKind.i64.wrap (l - (ps : Int)) = l - (ps : Int) := wrap_id (by omega) (by omega)
  simp (config := {contextual := true, implicitDefEqProofs := false, maxSteps := 60000}) [-Int.not_le, -Int.not_lt, argsF, laws_szIntS_c, hw]
  split <;> ((refine Out.plain hwf ?_ rfl ?_; (repeat first | exact Sub.refl _ | refine Sub.push hwf ?_ _ | refine Sub.set hwf ?_ (by first | exact Nat.le_refl _ | omega | (simp only [push_n, set_n, kill_n]; omega)) _ | refine Sub.kill hwf ?_ (by first | exact Nat.le_refl _ | omega | (simp only [push_n, set_n, kill_n]; omega)))); simp_all)

def q_szSi : Con := fun args H K => match args with
  | [.agg p_e, .c (.int .i64 l)] => onv (eSi.dec H p_e) fun p => 0 ≤ l ∧ l ≤ 1048576 ∧ K (.c (.int .i64 (szSi p l))) H
  | _ => False
@[simp ↓] theorem q_szSi_eq (p_e : List AC) (l : Int) (H : AHeap) (K : AV → AHeap → Prop) : q_szSi [.agg p_e, .c (.int .i64 l)] H K = (onv (eSi.dec H p_e) fun p => 0 ≤ l ∧ l ≤ 1048576 ∧ K (.c (.int .i64 (szSi p l))) H) := rfl

theorem laws_szSighting_s : Sound Try.prog 46 q_szSi := by
  intro args H K h
  unfold q_szSi at h
  split at h
  rotate_left
  all_goals first | exact False.elim h | skip
  rename_i p_e l
  have h1 := onv_iff.1 h
  clear h
  obtain ⟨p, hd_p, h⟩ := h1
  obtain ⟨b_p, i_p, k_p, rfl, hat_p, htx_p⟩ := eSi_at hd_p
  have hE := soundE_cons laws_szIntS_s (soundE_nil (P := Try.prog))
  refine acalls_fn laws_szSighting_k hE ⟨by simp, fun hwf => ?_⟩
  have hsr : SubE H H := SubE.refl H
  have hsp : ∀ H' k, H.n ≤ H'.n → SubE H H' → SubE H (H'.push k) := fun H' k hn hs => SubE.push hwf hn hs k
  have hst : ∀ H', SubE H H' → SubE H H'.toRo := fun H' hs => hs.toRo
  have hss : ∀ H' i k, H.n ≤ i → SubE H H' → SubE H (H'.set i k) := fun H' i k hn hs => SubE.set hwf hn hs k
  have hsk : ∀ H' i, H.n ≤ i → SubE H H' → SubE H (H'.kill i) := fun H' i hn hs => SubE.kill hwf hn hs
  have hb_p : b_p < H.n := (hwf b_p k_p hat_p.blk).1
  have hne_p : (b_p = H.n) = False := eq_false (by omega)
  have hne1_p : ∀ i, (b_p = H.n + i) = False := fun i => eq_false (by omega)
  have hne2_p : (b_p = H.n + 1 + 1) = False ∧ (b_p = H.n + 1 + 1 + 1) = False ∧ (b_p = H.n + 1 + 1 + 1 + 1) = False ∧ (b_p = H.n + 1 + 1 + 1 + 1 + 1) = False ∧ (b_p = H.n + 1 + 1 + 1 + 1 + 1 + 1) = False ∧ (b_p = H.n + 1 + 1 + 1 + 1 + 1 + 1 + 1) = False ∧ (b_p = H.n + 1 + 1 + 1 + 1 + 1 + 1 + 1 + 1) = False ∧ (b_p = H.n + 1 + 1 + 1 + 1 + 1 + 1 + 1 + 1 + 1) = False ∧ (b_p = H.n + 1 + 1 + 1 + 1 + 1 + 1 + 1 + 1 + 1 + 1) = False ∧ (b_p = H.n + 1 + 1 + 1 + 1 + 1 + 1 + 1 + 1 + 1 + 1 + 1) = False ∧ (b_p = H.n + 1 + 1 + 1 + 1 + 1 + 1 + 1 + 1 + 1 + 1 + 1 + 1) = False := ⟨eq_false (by omega), eq_false (by omega), eq_false (by omega), eq_false (by omega), eq_false (by omega), eq_false (by omega), eq_false (by omega), eq_false (by omega), eq_false (by omega), eq_false (by omega), eq_false (by omega)⟩
  have hmx_p : p.traits.length ≤ 9223372036854775807 := by have h1 := (hwf b_p k_p hat_p.blk).2.2; have h2 := hat_p.len; omega
  obtain ⟨hl1, hl2, h⟩ := h
  have hw : IntKind.i64.wrap (l - (p.town.length : Int)) = l - (p.town.length : Int) := wrap_id (by omega) (by omega)
  have hw0 : ∀ x : Int, ¬ x < 0 → 0 ≤ x := fun x hx => by omega
  have hw2 : l - (p.town.length : Int) ≤ 1048576 := by omega
  simp (config := {contextual := true, implicitDefEqProofs := false, maxSteps := 60000}) [-Int.not_le, -Int.not_lt, argsF, laws_szSighting_c, hat_p.blk, hat_p.esz, hat_p.len, hat_p.els, hne_p, hne1_p, hne2_p.1, hne2_p.2.1, hne2_p.2.2.1, hne2_p.2.2.2.1, hne2_p.2.2.2.2.1, hne2_p.2.2.2.2.2.1, hne2_p.2.2.2.2.2.2.1, hne2_p.2.2.2.2.2.2.2.1, hne2_p.2.2.2.2.2.2.2.2.1, hne2_p.2.2.2.2.2.2.2.2.2.1, hne2_p.2.2.2.2.2.2.2.2.2.2, htx_p, hsr, hsp, hst, hss, hsk, hw, hw2, hmx_p, Int.not_lt]
  unfold szSi at h
  refine ite_i (fun h1 => ?_) (fun h1 => ⟨by omega, ?_⟩)
  · rw [if_pos h1] at h; (refine Out.plain hwf ?_ rfl ?_; (repeat first | exact Sub.refl _ | refine Sub.push hwf ?_ _ | refine Sub.set hwf ?_ (by first | exact Nat.le_refl _ | omega | (simp only [push_n, set_n, kill_n]; omega)) _ | refine Sub.kill hwf ?_ (by first | exact Nat.le_refl _ | omega | (simp only [push_n, set_n, kill_n]; omega)))); exact h
  · rw [if_neg h1] at h
    by_cases h2 : l - (p.town.length : Int) - (p.traits.length : Int) < 0
    · rw [if_pos h2] at h; rw [if_pos h2, if_pos (by decide)]; (refine Out.plain hwf ?_ rfl ?_; (repeat first | exact Sub.refl _ | refine Sub.push hwf ?_ _ | refine Sub.set hwf ?_ (by first | exact Nat.le_refl _ | omega | (simp only [push_n, set_n, kill_n]; omega)) _ | refine Sub.kill hwf ?_ (by first | exact Nat.le_refl _ | omega | (simp only [push_n, set_n, kill_n]; omega)))); exact h
    · rw [if_neg h2] at h; rw [if_neg h2, if_neg h2]; (refine Out.plain hwf ?_ rfl ?_; (repeat first | exact Sub.refl _ | refine Sub.push hwf ?_ _ | refine Sub.set hwf ?_ (by first | exact Nat.le_refl _ | omega | (simp only [push_n, set_n, kill_n]; omega)) _ | refine Sub.kill hwf ?_ (by first | exact Nat.le_refl _ | omega | (simp only [push_n, set_n, kill_n]; omega)))); exact h

def q_szSis : Con := fun args H K => match args with
  | [ps_v, .c (.int .i64 l)] => eSi.rd H (fun ps => 0 ≤ l ∧ l ≤ 1048576 ∧ K (.c (.int .i64 (szSis ps l))) H) ps_v
  | _ => False
@[simp ↓] theorem q_szSis_eq (ps_v : AV) (l : Int) (H : AHeap) (K : AV → AHeap → Prop) : q_szSis [ps_v, .c (.int .i64 l)] H K = (eSi.rd H (fun ps => 0 ≤ l ∧ l ≤ 1048576 ∧ K (.c (.int .i64 (szSis ps l))) H) ps_v) := rfl

theorem laws_szSightingS_s : Sound Try.prog 21 q_szSis := by
  intro args H K h
  unfold q_szSis at h
  split at h
  rotate_left
  all_goals first | exact False.elim h | skip
  rename_i ps_v l
  have h1 := EncH.rd_at h
  clear h
  obtain ⟨b_ps, i_ps, k_ps, ps, rfl, hat_ps, h⟩ := h1
  have hE := soundE_cons laws_szSighting_s (soundE_nil (P := Try.prog))
  refine acalls_fn laws_szSightingS_k hE ⟨by simp, fun hwf => ?_⟩
  have hsr : SubE H H := SubE.refl H
  have hsp : ∀ H' k, H.n ≤ H'.n → SubE H H' → SubE H (H'.push k) := fun H' k hn hs => SubE.push hwf hn hs k
  have hst : ∀ H', SubE H H' → SubE H H'.toRo := fun H' hs => hs.toRo
  have hss : ∀ H' i k, H.n ≤ i → SubE H H' → SubE H (H'.set i k) := fun H' i k hn hs => SubE.set hwf hn hs k
  have hsk : ∀ H' i, H.n ≤ i → SubE H H' → SubE H (H'.kill i) := fun H' i hn hs => SubE.kill hwf hn hs
  have hon_ps := hat_ps.on
  have hb_ps : b_ps < H.n := (hwf b_ps k_ps hat_ps.blk).1
  have hne_ps : (b_ps = H.n) = False := eq_false (by omega)
  have hne1_ps : ∀ i, (b_ps = H.n + i) = False := fun i => eq_false (by omega)
  have hne2_ps : (b_ps = H.n + 1 + 1) = False ∧ (b_ps = H.n + 1 + 1 + 1) = False ∧ (b_ps = H.n + 1 + 1 + 1 + 1) = False ∧ (b_ps = H.n + 1 + 1 + 1 + 1 + 1) = False ∧ (b_ps = H.n + 1 + 1 + 1 + 1 + 1 + 1) = False ∧ (b_ps = H.n + 1 + 1 + 1 + 1 + 1 + 1 + 1) = False ∧ (b_ps = H.n + 1 + 1 + 1 + 1 + 1 + 1 + 1 + 1) = False ∧ (b_ps = H.n + 1 + 1 + 1 + 1 + 1 + 1 + 1 + 1 + 1) = False ∧ (b_ps = H.n + 1 + 1 + 1 + 1 + 1 + 1 + 1 + 1 + 1 + 1) = False ∧ (b_ps = H.n + 1 + 1 + 1 + 1 + 1 + 1 + 1 + 1 + 1 + 1 + 1) = False ∧ (b_ps = H.n + 1 + 1 + 1 + 1 + 1 + 1 + 1 + 1 + 1 + 1 + 1 + 1) = False := ⟨eq_false (by omega), eq_false (by omega), eq_false (by omega), eq_false (by omega), eq_false (by omega), eq_false (by omega), eq_false (by omega), eq_false (by omega), eq_false (by omega), eq_false (by omega), eq_false (by omega)⟩
  have hmx_ps : ps.length ≤ 9223372036854775807 := by have h1 := (hwf b_ps k_ps hat_ps.blk).2.2; have h2 := hat_ps.len; omega
  obtain ⟨hl1, hl2, h⟩ := h
  have hw : IntKind.i64.wrap (l - (ps.length : Int)) = l - (ps.length : Int) := wrap_id (by omega) (by omega)
  simp (config := {contextual := true, implicitDefEqProofs := false, maxSteps := 60000}) [-Int.not_le, -Int.not_lt, argsF, laws_szSightingS_c, hat_ps.blk, hat_ps.esz, hat_ps.len, hon_ps, hne_ps, hne1_ps, hne2_ps.1, hne2_ps.2.1, hne2_ps.2.2.1, hne2_ps.2.2.2.1, hne2_ps.2.2.2.2.1, hne2_ps.2.2.2.2.2.1, hne2_ps.2.2.2.2.2.2.1, hne2_ps.2.2.2.2.2.2.2.1, hne2_ps.2.2.2.2.2.2.2.2.1, hne2_ps.2.2.2.2.2.2.2.2.2.1, hne2_ps.2.2.2.2.2.2.2.2.2.2, hsr, hsp, hst, hss, hsk, hw]
  unfold szSis at h
  refine ite_i (fun h1 => ?_) (fun h1 => ?_)
  · rw [if_pos h1] at h; (refine Out.plain hwf ?_ rfl ?_; (repeat first | exact Sub.refl _ | refine Sub.push hwf ?_ _ | refine Sub.set hwf ?_ (by first | exact Nat.le_refl _ | omega | (simp only [push_n, set_n, kill_n]; omega)) _ | refine Sub.kill hwf ?_ (by first | exact Nat.le_refl _ | omega | (simp only [push_n, set_n, kill_n]; omega)))); exact h
  rw [if_neg h1] at h
  refine aloop_list ps (fun j (m : Int) => [(0, .c (.sl b_ps i_ps ps.length)), (1, .c (.int .i64 (m))), (5, .c (.int .i64 ((j : Int))))]) (fun j (m : Int) => H) (fun j r (m : Int) => 0 ≤ m ∧ m ≤ 1048576 ∧ K (.c (.int .i64 (szSiGo r m))) H) hE _ (l - (ps.length : Int)) ⟨by omega, by omega, h⟩ (.same hwf (by simp [frOk, AV.okR, AV.ok1, AC.okR, AV.ren, AV.ren1, AC.ren, AFrame.get, pl1_old, *]; first | done | rfl | omega)) (fun j m hlt hi => ?_) fun m hi => ?_
  · obtain ⟨hm1, hm2, hi⟩ := hi
    have hj1 := idx_lt hlt
    have w1 : IntKind.i64.wrap ((j : Int) + 1) = (j : Int) + 1 := wrap_id (by omega) (by omega)
    obtain ⟨ex_x, e_x, hd_x⟩ := hat_ps.get hlt
    obtain ⟨b_x, i_x, k_x, rfl, hat_x, htx_x⟩ := eSi_at hd_x
    have hb_x : b_x < H.n := (hwf b_x k_x hat_x.blk).1
    have hne_x : (b_x = H.n) = False := eq_false (by omega)
    have hne1_x : ∀ i, (b_x = H.n + i) = False := fun i => eq_false (by omega)
    have hne2_x : (b_x = H.n + 1 + 1) = False ∧ (b_x = H.n + 1 + 1 + 1) = False ∧ (b_x = H.n + 1 + 1 + 1 + 1) = False ∧ (b_x = H.n + 1 + 1 + 1 + 1 + 1) = False ∧ (b_x = H.n + 1 + 1 + 1 + 1 + 1 + 1) = False ∧ (b_x = H.n + 1 + 1 + 1 + 1 + 1 + 1 + 1) = False ∧ (b_x = H.n + 1 + 1 + 1 + 1 + 1 + 1 + 1 + 1) = False ∧ (b_x = H.n + 1 + 1 + 1 + 1 + 1 + 1 + 1 + 1 + 1) = False ∧ (b_x = H.n + 1 + 1 + 1 + 1 + 1 + 1 + 1 + 1 + 1 + 1) = False ∧ (b_x = H.n + 1 + 1 + 1 + 1 + 1 + 1 + 1 + 1 + 1 + 1 + 1) = False ∧ (b_x = H.n + 1 + 1 + 1 + 1 + 1 + 1 + 1 + 1 + 1 + 1 + 1 + 1) = False := ⟨eq_false (by omega), eq_false (by omega), eq_false (by omega), eq_false (by omega), eq_false (by omega), eq_false (by omega), eq_false (by omega), eq_false (by omega), eq_false (by omega), eq_false (by omega), eq_false (by omega)⟩
    simp (config := {contextual := true, implicitDefEqProofs := false, maxSteps := 60000}) [-Int.not_le, -Int.not_lt, argsF, laws_szSightingS_l0, hat_ps.blk, hat_ps.esz, hat_ps.len, hon_ps, hne_ps, hne1_ps, hne2_ps.1, hne2_ps.2.1, hne2_ps.2.2.1, hne2_ps.2.2.2.1, hne2_ps.2.2.2.2.1, hne2_ps.2.2.2.2.2.1, hne2_ps.2.2.2.2.2.2.1, hne2_ps.2.2.2.2.2.2.2.1, hne2_ps.2.2.2.2.2.2.2.2.1, hne2_ps.2.2.2.2.2.2.2.2.2.1, hne2_ps.2.2.2.2.2.2.2.2.2.2, hsr, hsp, hst, hss, hsk, hj1, w1, hlt, hm1, hm2, e_x, htx_x, hat_x.blk, hat_x.esz, hat_x.len, hat_x.els, hne_x, hne1_x, hne2_x.1, hne2_x.2.1, hne2_x.2.2.1, hne2_x.2.2.2.1, hne2_x.2.2.2.2.1, hne2_x.2.2.2.2.2.1, hne2_x.2.2.2.2.2.2.1, hne2_x.2.2.2.2.2.2.2.1, hne2_x.2.2.2.2.2.2.2.2.1, hne2_x.2.2.2.2.2.2.2.2.2.1, hne2_x.2.2.2.2.2.2.2.2.2.2]
    simp only [szSiGo] at hi
    refine ite_i (fun h2 => ?_) (fun h2 => ?_)
    · rw [if_pos h2] at hi; (refine Out.plain hwf ?_ rfl ?_; (repeat first | exact Sub.refl _ | refine Sub.push hwf ?_ _ | refine Sub.set hwf ?_ (by first | exact Nat.le_refl _ | omega | (simp only [push_n, set_n, kill_n]; omega)) _ | refine Sub.kill hwf ?_ (by first | exact Nat.le_refl _ | omega | (simp only [push_n, set_n, kill_n]; omega)))); exact hi
    · rw [if_neg h2] at hi
      have := szSi_le ps[j] (l := m) (by omega)
      exact ⟨szSi ps[j] m, ⟨by omega, by omega, hi⟩, .drop hwf (by (repeat first | exact Sub.refl _ | refine Sub.push hwf ?_ _ | refine Sub.set hwf ?_ (by first | exact Nat.le_refl _ | omega | (simp only [push_n, set_n, kill_n]; omega)) _ | refine Sub.kill hwf ?_ (by first | exact Nat.le_refl _ | omega | (simp only [push_n, set_n, kill_n]; omega)))) (by simp [frOk, AV.okR, AV.ok1, AC.okR, AV.ren, AV.ren1, AC.ren, AFrame.get, pl1_old, *]; first | done | rfl | omega)⟩
  · obtain ⟨hm1, hm2, hi⟩ := hi
    simp (config := {contextual := true, implicitDefEqProofs := false, maxSteps := 60000}) [-Int.not_le, -Int.not_lt, argsF, laws_szSightingS_l0]
    simp only [szSiGo] at hi
    (refine Out.plain hwf ?_ rfl ?_; (repeat first | exact Sub.refl _ | refine Sub.push hwf ?_ _ | refine Sub.set hwf ?_ (by first | exact Nat.le_refl _ | omega | (simp only [push_n, set_n, kill_n]; omega)) _ | refine Sub.kill hwf ?_ (by first | exact Nat.le_refl _ | omega | (simp only [push_n, set_n, kill_n]; omega)))); exact hi

def q_eqSi : Con := fun args H K => match args with
  | [.agg p_e, .agg r_e] => onv (eSi.dec H p_e) fun p => onv (eSi.dec H r_e) fun r => K (.c (.bool (decide (p = r)))) H
  | _ => False
@[simp ↓] theorem q_eqSi_eq (p_e : List AC) (r_e : List AC) (H : AHeap) (K : AV → AHeap → Prop) : q_eqSi [.agg p_e, .agg r_e] H K = (onv (eSi.dec H p_e) fun p => onv (eSi.dec H r_e) fun r => K (.c (.bool (decide (p = r)))) H) := rfl

theorem si_ext {p r : Si} : p = r ↔ p.id = r.id ∧ p.year = r.year ∧ p.town = r.town ∧ p.traits = r.traits := by
  cases p; cases r; simp

theorem laws_eqSighting_s : Sound Try.prog 51 q_eqSi := by
  intro args H K h
  unfold q_eqSi at h
  split at h
  rotate_left
  all_goals first | exact False.elim h | skip
  rename_i p_e r_e
  have h1 := onv_iff.1 h
  clear h
  obtain ⟨p, hd_p, h⟩ := h1
  obtain ⟨b_p, i_p, k_p, rfl, hat_p, htx_p⟩ := eSi_at hd_p
  have h1 := onv_iff.1 h
  clear h
  obtain ⟨r, hd_r, h⟩ := h1
  obtain ⟨b_r, i_r, k_r, rfl, hat_r, htx_r⟩ := eSi_at hd_r
  have hE := soundE_cons laws_eqIntS_s (soundE_nil (P := Try.prog))
  refine acalls_fn laws_eqSighting_k hE ⟨by simp, fun hwf => ?_⟩
  have hsr : SubE H H := SubE.refl H
  have hsp : ∀ H' k, H.n ≤ H'.n → SubE H H' → SubE H (H'.push k) := fun H' k hn hs => SubE.push hwf hn hs k
  have hst : ∀ H', SubE H H' → SubE H H'.toRo := fun H' hs => hs.toRo
  have hss : ∀ H' i k, H.n ≤ i → SubE H H' → SubE H (H'.set i k) := fun H' i k hn hs => SubE.set hwf hn hs k
  have hsk : ∀ H' i, H.n ≤ i → SubE H H' → SubE H (H'.kill i) := fun H' i hn hs => SubE.kill hwf hn hs
  have hb_p : b_p < H.n := (hwf b_p k_p hat_p.blk).1
  have hne_p : (b_p = H.n) = False := eq_false (by omega)
  have hne1_p : ∀ i, (b_p = H.n + i) = False := fun i => eq_false (by omega)
  have hne2_p : (b_p = H.n + 1 + 1) = False ∧ (b_p = H.n + 1 + 1 + 1) = False ∧ (b_p = H.n + 1 + 1 + 1 + 1) = False ∧ (b_p = H.n + 1 + 1 + 1 + 1 + 1) = False ∧ (b_p = H.n + 1 + 1 + 1 + 1 + 1 + 1) = False ∧ (b_p = H.n + 1 + 1 + 1 + 1 + 1 + 1 + 1) = False ∧ (b_p = H.n + 1 + 1 + 1 + 1 + 1 + 1 + 1 + 1) = False ∧ (b_p = H.n + 1 + 1 + 1 + 1 + 1 + 1 + 1 + 1 + 1) = False ∧ (b_p = H.n + 1 + 1 + 1 + 1 + 1 + 1 + 1 + 1 + 1 + 1) = False ∧ (b_p = H.n + 1 + 1 + 1 + 1 + 1 + 1 + 1 + 1 + 1 + 1 + 1) = False ∧ (b_p = H.n + 1 + 1 + 1 + 1 + 1 + 1 + 1 + 1 + 1 + 1 + 1 + 1) = False := ⟨eq_false (by omega), eq_false (by omega), eq_false (by omega), eq_false (by omega), eq_false (by omega), eq_false (by omega), eq_false (by omega), eq_false (by omega), eq_false (by omega), eq_false (by omega), eq_false (by omega)⟩
  have hmx_p : p.traits.length ≤ 9223372036854775807 := by have h1 := (hwf b_p k_p hat_p.blk).2.2; have h2 := hat_p.len; omega
  have hb_r : b_r < H.n := (hwf b_r k_r hat_r.blk).1
  have hne_r : (b_r = H.n) = False := eq_false (by omega)
  have hne1_r : ∀ i, (b_r = H.n + i) = False := fun i => eq_false (by omega)
  have hne2_r : (b_r = H.n + 1 + 1) = False ∧ (b_r = H.n + 1 + 1 + 1) = False ∧ (b_r = H.n + 1 + 1 + 1 + 1) = False ∧ (b_r = H.n + 1 + 1 + 1 + 1 + 1) = False ∧ (b_r = H.n + 1 + 1 + 1 + 1 + 1 + 1) = False ∧ (b_r = H.n + 1 + 1 + 1 + 1 + 1 + 1 + 1) = False ∧ (b_r = H.n + 1 + 1 + 1 + 1 + 1 + 1 + 1 + 1) = False ∧ (b_r = H.n + 1 + 1 + 1 + 1 + 1 + 1 + 1 + 1 + 1) = False ∧ (b_r = H.n + 1 + 1 + 1 + 1 + 1 + 1 + 1 + 1 + 1 + 1) = False ∧ (b_r = H.n + 1 + 1 + 1 + 1 + 1 + 1 + 1 + 1 + 1 + 1 + 1) = False ∧ (b_r = H.n + 1 + 1 + 1 + 1 + 1 + 1 + 1 + 1 + 1 + 1 + 1 + 1) = False := ⟨eq_false (by omega), eq_false (by omega), eq_false (by omega), eq_false (by omega), eq_false (by omega), eq_false (by omega), eq_false (by omega), eq_false (by omega), eq_false (by omega), eq_false (by omega), eq_false (by omega)⟩
  have hmx_r : r.traits.length ≤ 9223372036854775807 := by have h1 := (hwf b_r k_r hat_r.blk).2.2; have h2 := hat_r.len; omega
  simp (config := {contextual := true, implicitDefEqProofs := false, maxSteps := 60000}) [-Int.not_le, -Int.not_lt, argsF, laws_eqSighting_c, hat_p.blk, hat_p.esz, hat_p.len, hat_p.els, hne_p, hne1_p, hne2_p.1, hne2_p.2.1, hne2_p.2.2.1, hne2_p.2.2.2.1, hne2_p.2.2.2.2.1, hne2_p.2.2.2.2.2.1, hne2_p.2.2.2.2.2.2.1, hne2_p.2.2.2.2.2.2.2.1, hne2_p.2.2.2.2.2.2.2.2.1, hne2_p.2.2.2.2.2.2.2.2.2.1, hne2_p.2.2.2.2.2.2.2.2.2.2, hat_r.blk, hat_r.esz, hat_r.len, hat_r.els, hne_r, hne1_r, hne2_r.1, hne2_r.2.1, hne2_r.2.2.1, hne2_r.2.2.2.1, hne2_r.2.2.2.2.1, hne2_r.2.2.2.2.2.1, hne2_r.2.2.2.2.2.2.1, hne2_r.2.2.2.2.2.2.2.1, hne2_r.2.2.2.2.2.2.2.2.1, hne2_r.2.2.2.2.2.2.2.2.2.1, hne2_r.2.2.2.2.2.2.2.2.2.2, htx_p, htx_r, hsr, hsp, hst, hss, hsk]
  have e : decide (p = r) = (decide (p.id = r.id) && (decide (p.year = r.year) && (decide (p.town = r.town) && decide (p.traits = r.traits)))) := by
    rw [Bool.eq_iff_iff]; simp only [decide_eq_true_eq, Bool.and_eq_true]; exact si_ext
  rw [e] at h
  clear e
  repeat' (refine ite_i (fun _ => ?_) (fun _ => ?_))
  all_goals (refine Out.plain hwf ?_ rfl ?_; (repeat first | exact Sub.refl _ | refine Sub.push hwf ?_ _ | refine Sub.set hwf ?_ (by first | exact Nat.le_refl _ | omega | (simp only [push_n, set_n, kill_n]; omega)) _ | refine Sub.kill hwf ?_ (by first | exact Nat.le_refl _ | omega | (simp only [push_n, set_n, kill_n]; omega))))
  all_goals simp_all

def q_eqSis : Con := fun args H K => match args with
  | [ps_v, rs_v] => eSi.rd H (fun ps => eSi.rd H (fun rs => K (.c (.bool (decide (ps = rs)))) H) rs_v) ps_v
  | _ => False
@[simp ↓] theorem q_eqSis_eq (ps_v : AV) (rs_v : AV) (H : AHeap) (K : AV → AHeap → Prop) : q_eqSis [ps_v, rs_v] H K = (eSi.rd H (fun ps => eSi.rd H (fun rs => K (.c (.bool (decide (ps = rs)))) H) rs_v) ps_v) := rfl

theorem laws_eqSightingS_s : Sound Try.prog 26 q_eqSis := by
  intro args H K h
  unfold q_eqSis at h
  split at h
  rotate_left
  all_goals first | exact False.elim h | skip
  rename_i ps_v rs_v
  have h1 := EncH.rd_at h
  clear h
  obtain ⟨b_ps, i_ps, k_ps, ps, rfl, hat_ps, h⟩ := h1
  have h1 := EncH.rd_at h
  clear h
  obtain ⟨b_rs, i_rs, k_rs, rs, rfl, hat_rs, h⟩ := h1
  have hE := soundE_cons laws_eqSighting_s (soundE_nil (P := Try.prog))
  refine acalls_fn laws_eqSightingS_k hE ⟨by simp, fun hwf => ?_⟩
  have hsr : SubE H H := SubE.refl H
  have hsp : ∀ H' k, H.n ≤ H'.n → SubE H H' → SubE H (H'.push k) := fun H' k hn hs => SubE.push hwf hn hs k
  have hst : ∀ H', SubE H H' → SubE H H'.toRo := fun H' hs => hs.toRo
  have hss : ∀ H' i k, H.n ≤ i → SubE H H' → SubE H (H'.set i k) := fun H' i k hn hs => SubE.set hwf hn hs k
  have hsk : ∀ H' i, H.n ≤ i → SubE H H' → SubE H (H'.kill i) := fun H' i hn hs => SubE.kill hwf hn hs
  have hon_ps := hat_ps.on
  have hon_rs := hat_rs.on
  have hb_ps : b_ps < H.n := (hwf b_ps k_ps hat_ps.blk).1
  have hne_ps : (b_ps = H.n) = False := eq_false (by omega)
  have hne1_ps : ∀ i, (b_ps = H.n + i) = False := fun i => eq_false (by omega)
  have hne2_ps : (b_ps = H.n + 1 + 1) = False ∧ (b_ps = H.n + 1 + 1 + 1) = False ∧ (b_ps = H.n + 1 + 1 + 1 + 1) = False ∧ (b_ps = H.n + 1 + 1 + 1 + 1 + 1) = False ∧ (b_ps = H.n + 1 + 1 + 1 + 1 + 1 + 1) = False ∧ (b_ps = H.n + 1 + 1 + 1 + 1 + 1 + 1 + 1) = False ∧ (b_ps = H.n + 1 + 1 + 1 + 1 + 1 + 1 + 1 + 1) = False ∧ (b_ps = H.n + 1 + 1 + 1 + 1 + 1 + 1 + 1 + 1 + 1) = False ∧ (b_ps = H.n + 1 + 1 + 1 + 1 + 1 + 1 + 1 + 1 + 1 + 1) = False ∧ (b_ps = H.n + 1 + 1 + 1 + 1 + 1 + 1 + 1 + 1 + 1 + 1 + 1) = False ∧ (b_ps = H.n + 1 + 1 + 1 + 1 + 1 + 1 + 1 + 1 + 1 + 1 + 1 + 1) = False := ⟨eq_false (by omega), eq_false (by omega), eq_false (by omega), eq_false (by omega), eq_false (by omega), eq_false (by omega), eq_false (by omega), eq_false (by omega), eq_false (by omega), eq_false (by omega), eq_false (by omega)⟩
  have hmx_ps : ps.length ≤ 9223372036854775807 := by have h1 := (hwf b_ps k_ps hat_ps.blk).2.2; have h2 := hat_ps.len; omega
  have hb_rs : b_rs < H.n := (hwf b_rs k_rs hat_rs.blk).1
  have hne_rs : (b_rs = H.n) = False := eq_false (by omega)
  have hne1_rs : ∀ i, (b_rs = H.n + i) = False := fun i => eq_false (by omega)
  have hne2_rs : (b_rs = H.n + 1 + 1) = False ∧ (b_rs = H.n + 1 + 1 + 1) = False ∧ (b_rs = H.n + 1 + 1 + 1 + 1) = False ∧ (b_rs = H.n + 1 + 1 + 1 + 1 + 1) = False ∧ (b_rs = H.n + 1 + 1 + 1 + 1 + 1 + 1) = False ∧ (b_rs = H.n + 1 + 1 + 1 + 1 + 1 + 1 + 1) = False ∧ (b_rs = H.n + 1 + 1 + 1 + 1 + 1 + 1 + 1 + 1) = False ∧ (b_rs = H.n + 1 + 1 + 1 + 1 + 1 + 1 + 1 + 1 + 1) = False ∧ (b_rs = H.n + 1 + 1 + 1 + 1 + 1 + 1 + 1 + 1 + 1 + 1) = False ∧ (b_rs = H.n + 1 + 1 + 1 + 1 + 1 + 1 + 1 + 1 + 1 + 1 + 1) = False ∧ (b_rs = H.n + 1 + 1 + 1 + 1 + 1 + 1 + 1 + 1 + 1 + 1 + 1 + 1) = False := ⟨eq_false (by omega), eq_false (by omega), eq_false (by omega), eq_false (by omega), eq_false (by omega), eq_false (by omega), eq_false (by omega), eq_false (by omega), eq_false (by omega), eq_false (by omega), eq_false (by omega)⟩
  have hmx_rs : rs.length ≤ 9223372036854775807 := by have h1 := (hwf b_rs k_rs hat_rs.blk).2.2; have h2 := hat_rs.len; omega
  simp (config := {contextual := true, implicitDefEqProofs := false, maxSteps := 60000}) [-Int.not_le, -Int.not_lt, argsF, laws_eqSightingS_c, hat_ps.blk, hat_ps.esz, hat_ps.len, hon_ps, hne_ps, hne1_ps, hne2_ps.1, hne2_ps.2.1, hne2_ps.2.2.1, hne2_ps.2.2.2.1, hne2_ps.2.2.2.2.1, hne2_ps.2.2.2.2.2.1, hne2_ps.2.2.2.2.2.2.1, hne2_ps.2.2.2.2.2.2.2.1, hne2_ps.2.2.2.2.2.2.2.2.1, hne2_ps.2.2.2.2.2.2.2.2.2.1, hne2_ps.2.2.2.2.2.2.2.2.2.2, hat_rs.blk, hat_rs.esz, hat_rs.len, hon_rs, hne_rs, hne1_rs, hne2_rs.1, hne2_rs.2.1, hne2_rs.2.2.1, hne2_rs.2.2.2.1, hne2_rs.2.2.2.2.1, hne2_rs.2.2.2.2.2.1, hne2_rs.2.2.2.2.2.2.1, hne2_rs.2.2.2.2.2.2.2.1, hne2_rs.2.2.2.2.2.2.2.2.1, hne2_rs.2.2.2.2.2.2.2.2.2.1, hne2_rs.2.2.2.2.2.2.2.2.2.2, hsr, hsp, hst, hss, hsk]
  refine ite_i (fun hlen => ?_) (fun hlen => ?_)
  · refine aloop_list ps (fun j _ => [(0, .c (.sl b_ps i_ps ps.length)), (1, .c (.sl b_rs i_rs rs.length)), (5, .c (.int .i64 ((j : Int))))]) (fun j _ => H) (fun j l _ => K (.c (.bool (decide (l = rs.drop j)))) H) hE _ () (by simpa using h) (.same hwf (by simp [frOk, AV.okR, AV.ok1, AC.okR, AV.ren, AV.ren1, AC.ren, AFrame.get, pl1_old, *]; first | done | rfl | omega)) (fun j _ hlt hi => ?_) fun _ hi => ?_
    · have hr : j < rs.length := by omega
      have hr1 := idx_lt hr
      have hj1 := idx_lt hlt
      have w1 : IntKind.i64.wrap ((j : Int) + 1) = (j : Int) + 1 := wrap_id (by omega) (by omega)
      rw [List.drop_eq_getElem_cons hr] at hi
      obtain ⟨ex_x, e_x, hd_x⟩ := hat_ps.get hlt
      obtain ⟨b_x, i_x, k_x, rfl, hat_x, htx_x⟩ := eSi_at hd_x
      have hb_x : b_x < H.n := (hwf b_x k_x hat_x.blk).1
      have hne_x : (b_x = H.n) = False := eq_false (by omega)
      have hne1_x : ∀ i, (b_x = H.n + i) = False := fun i => eq_false (by omega)
      have hne2_x : (b_x = H.n + 1 + 1) = False ∧ (b_x = H.n + 1 + 1 + 1) = False ∧ (b_x = H.n + 1 + 1 + 1 + 1) = False ∧ (b_x = H.n + 1 + 1 + 1 + 1 + 1) = False ∧ (b_x = H.n + 1 + 1 + 1 + 1 + 1 + 1) = False ∧ (b_x = H.n + 1 + 1 + 1 + 1 + 1 + 1 + 1) = False ∧ (b_x = H.n + 1 + 1 + 1 + 1 + 1 + 1 + 1 + 1) = False ∧ (b_x = H.n + 1 + 1 + 1 + 1 + 1 + 1 + 1 + 1 + 1) = False ∧ (b_x = H.n + 1 + 1 + 1 + 1 + 1 + 1 + 1 + 1 + 1 + 1) = False ∧ (b_x = H.n + 1 + 1 + 1 + 1 + 1 + 1 + 1 + 1 + 1 + 1 + 1) = False ∧ (b_x = H.n + 1 + 1 + 1 + 1 + 1 + 1 + 1 + 1 + 1 + 1 + 1 + 1) = False := ⟨eq_false (by omega), eq_false (by omega), eq_false (by omega), eq_false (by omega), eq_false (by omega), eq_false (by omega), eq_false (by omega), eq_false (by omega), eq_false (by omega), eq_false (by omega), eq_false (by omega)⟩
      obtain ⟨ex_y, e_y, hd_y⟩ := hat_rs.get hr
      obtain ⟨b_y, i_y, k_y, rfl, hat_y, htx_y⟩ := eSi_at hd_y
      have hb_y : b_y < H.n := (hwf b_y k_y hat_y.blk).1
      have hne_y : (b_y = H.n) = False := eq_false (by omega)
      have hne1_y : ∀ i, (b_y = H.n + i) = False := fun i => eq_false (by omega)
      have hne2_y : (b_y = H.n + 1 + 1) = False ∧ (b_y = H.n + 1 + 1 + 1) = False ∧ (b_y = H.n + 1 + 1 + 1 + 1) = False ∧ (b_y = H.n + 1 + 1 + 1 + 1 + 1) = False ∧ (b_y = H.n + 1 + 1 + 1 + 1 + 1 + 1) = False ∧ (b_y = H.n + 1 + 1 + 1 + 1 + 1 + 1 + 1) = False ∧ (b_y = H.n + 1 + 1 + 1 + 1 + 1 + 1 + 1 + 1) = False ∧ (b_y = H.n + 1 + 1 + 1 + 1 + 1 + 1 + 1 + 1 + 1) = False ∧ (b_y = H.n + 1 + 1 + 1 + 1 + 1 + 1 + 1 + 1 + 1 + 1) = False ∧ (b_y = H.n + 1 + 1 + 1 + 1 + 1 + 1 + 1 + 1 + 1 + 1 + 1) = False ∧ (b_y = H.n + 1 + 1 + 1 + 1 + 1 + 1 + 1 + 1 + 1 + 1 + 1 + 1) = False := ⟨eq_false (by omega), eq_false (by omega), eq_false (by omega), eq_false (by omega), eq_false (by omega), eq_false (by omega), eq_false (by omega), eq_false (by omega), eq_false (by omega), eq_false (by omega), eq_false (by omega)⟩
      simp (config := {contextual := true, implicitDefEqProofs := false, maxSteps := 60000}) [-Int.not_le, -Int.not_lt, argsF, laws_eqSightingS_l0, hat_ps.blk, hat_ps.esz, hat_ps.len, hon_ps, hne_ps, hne1_ps, hne2_ps.1, hne2_ps.2.1, hne2_ps.2.2.1, hne2_ps.2.2.2.1, hne2_ps.2.2.2.2.1, hne2_ps.2.2.2.2.2.1, hne2_ps.2.2.2.2.2.2.1, hne2_ps.2.2.2.2.2.2.2.1, hne2_ps.2.2.2.2.2.2.2.2.1, hne2_ps.2.2.2.2.2.2.2.2.2.1, hne2_ps.2.2.2.2.2.2.2.2.2.2, hat_rs.blk, hat_rs.esz, hat_rs.len, hon_rs, hne_rs, hne1_rs, hne2_rs.1, hne2_rs.2.1, hne2_rs.2.2.1, hne2_rs.2.2.2.1, hne2_rs.2.2.2.2.1, hne2_rs.2.2.2.2.2.1, hne2_rs.2.2.2.2.2.2.1, hne2_rs.2.2.2.2.2.2.2.1, hne2_rs.2.2.2.2.2.2.2.2.1, hne2_rs.2.2.2.2.2.2.2.2.2.1, hne2_rs.2.2.2.2.2.2.2.2.2.2, hsr, hsp, hst, hss, hsk, hj1, hr, hr1, w1, hlt, e_x, htx_x, hat_x.blk, hat_x.esz, hat_x.len, hat_x.els, hne_x, hne1_x, hne2_x.1, hne2_x.2.1, hne2_x.2.2.1, hne2_x.2.2.2.1, hne2_x.2.2.2.2.1, hne2_x.2.2.2.2.2.1, hne2_x.2.2.2.2.2.2.1, hne2_x.2.2.2.2.2.2.2.1, hne2_x.2.2.2.2.2.2.2.2.1, hne2_x.2.2.2.2.2.2.2.2.2.1, hne2_x.2.2.2.2.2.2.2.2.2.2, e_y, htx_y, hat_y.blk, hat_y.esz, hat_y.len, hat_y.els, hne_y, hne1_y, hne2_y.1, hne2_y.2.1, hne2_y.2.2.1, hne2_y.2.2.2.1, hne2_y.2.2.2.2.1, hne2_y.2.2.2.2.2.1, hne2_y.2.2.2.2.2.2.1, hne2_y.2.2.2.2.2.2.2.1, hne2_y.2.2.2.2.2.2.2.2.1, hne2_y.2.2.2.2.2.2.2.2.2.1, hne2_y.2.2.2.2.2.2.2.2.2.2]
      simp only [List.cons.injEq] at hi
      refine ite_i (fun hc => ?_) (fun hc => ?_)
      · simp only [hc, true_and] at hi
        exact ⟨(), hi, .drop hwf (by (repeat first | exact Sub.refl _ | refine Sub.push hwf ?_ _ | refine Sub.set hwf ?_ (by first | exact Nat.le_refl _ | omega | (simp only [push_n, set_n, kill_n]; omega)) _ | refine Sub.kill hwf ?_ (by first | exact Nat.le_refl _ | omega | (simp only [push_n, set_n, kill_n]; omega)))) (by simp [frOk, AV.okR, AV.ok1, AC.okR, AV.ren, AV.ren1, AC.ren, AFrame.get, pl1_old, *]; first | done | rfl | omega)⟩
      · simp only [hc, false_and, decide_false] at hi
        (refine Out.plain hwf ?_ rfl ?_; (repeat first | exact Sub.refl _ | refine Sub.push hwf ?_ _ | refine Sub.set hwf ?_ (by first | exact Nat.le_refl _ | omega | (simp only [push_n, set_n, kill_n]; omega)) _ | refine Sub.kill hwf ?_ (by first | exact Nat.le_refl _ | omega | (simp only [push_n, set_n, kill_n]; omega)))); exact hi
    · simp (config := {contextual := true, implicitDefEqProofs := false, maxSteps := 60000}) [-Int.not_le, -Int.not_lt, argsF, laws_eqSightingS_l0]
      rw [show ps.length = rs.length by omega, List.drop_length] at hi
      (refine Out.plain hwf ?_ rfl ?_; (repeat first | exact Sub.refl _ | refine Sub.push hwf ?_ _ | refine Sub.set hwf ?_ (by first | exact Nat.le_refl _ | omega | (simp only [push_n, set_n, kill_n]; omega)) _ | refine Sub.kill hwf ?_ (by first | exact Nat.le_refl _ | omega | (simp only [push_n, set_n, kill_n]; omega)))); simpa using hi
  · (refine Out.plain hwf ?_ rfl ?_; (repeat first | exact Sub.refl _ | refine Sub.push hwf ?_ _ | refine Sub.set hwf ?_ (by first | exact Nat.le_refl _ | omega | (simp only [push_n, set_n, kill_n]; omega)) _ | refine Sub.kill hwf ?_ (by first | exact Nat.le_refl _ | omega | (simp only [push_n, set_n, kill_n]; omega))))
    rwa [decide_eq_false (fun e => hlen (by rw [e]))] at h

end Go.Proofs.Ytafenginfojcmaa
