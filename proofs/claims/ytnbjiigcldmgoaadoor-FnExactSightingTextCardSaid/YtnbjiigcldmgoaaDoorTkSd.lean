/- The laws' helpers: a sighting. -/
import Derived.Test.YtnbjiigcldmgoaaDoorSdQ
import Derived.Test.YtnbjiigcldmgoaaDoorTkI
set_option maxRecDepth 8000
set_option linter.unusedSimpArgs false
set_option linter.unusedVariables false
namespace Go.Proofs.YtnbjiigcldmgoaaDoor
open Go Go.RowKit

set_option maxHeartbeats 2000000
theorem Stop.go {X : Prop} {u : UnitOf X} (h : Stop X u) : X := h

/-- a sighting's cells, its numbers in block c -/
def siCells (c : Nat) (s : Si) : List AC := [.int .i64 s.id, .int .i64 s.year, .str s.town, .sl c 0 s.traits.length]
/-- a new list of sightings: all that it names is new, and each row but once -/
structure NewSi (lo : Nat) (H' : AHeap) (b : Nat) (ps : List Si) : Prop where
  ge : lo ≤ b
  tx : ∀ p ∈ ps, p.town.length ≤ 9223372036854775807
  ex : ∃ cs : List Nat, cs.length = ps.length ∧ cs.Nodup ∧ (∀ c ∈ cs, lo ≤ c ∧ c ≠ b) ∧ H'.b b = some ⟨28, 4, false, false, List.zipWith siCells cs ps⟩ ∧ ∀ (j c : Nat) (p : Si), cs[j]? = some c → ps[j]? = some p → H'.b c = some (rowK eI 3 p.traits)

def q_toSi : Con := fun args H K => match args with
  | [.agg p_e] => onv (eSi.dec H p_e) fun p => p.traits.length ≤ 1048576 ∧ K (.agg (siCells H.n p)) (H.push (rowK eI 3 p.traits))
  | _ => False
@[simp ↓] theorem q_toSi_eq (p_e : List AC) (H : AHeap) (K : AV → AHeap → Prop) : q_toSi [.agg p_e] H K = (onv (eSi.dec H p_e) fun p => p.traits.length ≤ 1048576 ∧ K (.agg (siCells H.n p)) (H.push (rowK eI 3 p.traits))) := rfl

theorem laws_toSighting_s : Sound Tryd.prog 6 q_toSi := by
  intro args H K h
  unfold q_toSi at h
  split at h
  rotate_left
  all_goals first | exact False.elim h | skip
  rename_i p_e
  have h1 := onv_iff.1 h
  clear h
  obtain ⟨p, hd_p, h⟩ := h1
  obtain ⟨b_p, i_p, k_p, rfl, hat_p, htx_p⟩ := eSi_at hd_p
  have hE := soundE_cons laws_toIntS_s (soundE_nil (P := Tryd.prog))
  refine acalls_fn laws_toSighting_k hE ⟨by simp, fun hwf => ?_⟩
  have hsr : SubE H H := SubE.refl H
  have hsp : ∀ H' k, H.n ≤ H'.n → SubE H H' → SubE H (H'.push k) := fun H' k hn hs => SubE.push hwf hn hs k
  have hst : ∀ H', SubE H H' → SubE H H'.toRo := fun H' hs => hs.toRo
  have hss : ∀ H' i k, H.n ≤ i → SubE H H' → SubE H (H'.set i k) := fun H' i k hn hs => SubE.set hwf hn hs k
  have hsk : ∀ H' i, H.n ≤ i → SubE H H' → SubE H (H'.kill i) := fun H' i hn hs => SubE.kill hwf hn hs
  have hb_p : b_p < H.n := (hwf b_p k_p hat_p.blk).1
  have hne_p : (b_p = H.n) = False := eq_false (by omega)
  have hne1_p : ∀ i, (b_p = H.n + i) = False := fun i => eq_false (by omega)
  have hne2_p : (b_p = H.n + 1 + 1) = False ∧ (b_p = H.n + 1 + 1 + 1) = False ∧ (b_p = H.n + 1 + 1 + 1 + 1) = False ∧ (b_p = H.n + 1 + 1 + 1 + 1 + 1) = False ∧ (b_p = H.n + 1 + 1 + 1 + 1 + 1 + 1) = False ∧ (b_p = H.n + 1 + 1 + 1 + 1 + 1 + 1 + 1) = False ∧ (b_p = H.n + 1 + 1 + 1 + 1 + 1 + 1 + 1 + 1) = False ∧ (b_p = H.n + 1 + 1 + 1 + 1 + 1 + 1 + 1 + 1 + 1) = False ∧ (b_p = H.n + 1 + 1 + 1 + 1 + 1 + 1 + 1 + 1 + 1 + 1) = False ∧ (b_p = H.n + 1 + 1 + 1 + 1 + 1 + 1 + 1 + 1 + 1 + 1 + 1) = False ∧ (b_p = H.n + 1 + 1 + 1 + 1 + 1 + 1 + 1 + 1 + 1 + 1 + 1 + 1) = False := ⟨eq_false (by omega), eq_false (by omega), eq_false (by omega), eq_false (by omega), eq_false (by omega), eq_false (by omega), eq_false (by omega), eq_false (by omega), eq_false (by omega), eq_false (by omega), eq_false (by omega)⟩
  have hmx_p : p.traits.length ≤ 9223372036854775807 := by have h1 := (hwf b_p k_p hat_p.blk).2.2; have h2 := hat_p.len; omega
  obtain ⟨hl, h⟩ := h
  simp (config := {contextual := true, implicitDefEqProofs := false, maxSteps := 60000}) [-Int.not_le, -Int.not_lt, argsF, laws_toSighting_c, hat_p.blk, hat_p.esz, hat_p.len, hat_p.els, hne_p, hne1_p, hne2_p.1, hne2_p.2.1, hne2_p.2.2.1, hne2_p.2.2.2.1, hne2_p.2.2.2.2.1, hne2_p.2.2.2.2.2.1, hne2_p.2.2.2.2.2.2.1, hne2_p.2.2.2.2.2.2.2.1, hne2_p.2.2.2.2.2.2.2.2.1, hne2_p.2.2.2.2.2.2.2.2.2.1, hne2_p.2.2.2.2.2.2.2.2.2.2, htx_p, hsr, hsp, hst, hss, hsk]
  unfold siCells at h
  exact ⟨hl, (.one (c := some (H.n + 1 + 1 + 1)) hwf (by (repeat first | exact Sub.refl _ | refine Sub.push hwf ?_ _ | refine Sub.set hwf ?_ (by first | exact Nat.le_refl _ | omega) _ | refine Sub.kill hwf ?_ (by first | exact Nat.le_refl _ | omega))) ⟨by omega, by simp [push_b, set_b, kill_b, rowK]; done⟩ (plain_map (fun _ => rfl) _) (by simp [frOk, AV.okR, AV.ok1, AC.okR, AV.ren, AV.ren1, AC.ren, AFrame.get, pl1_old, *]; first | done | omega) h)⟩

@[simp] theorem si_eta (p : Si) : (⟨p.id, p.year, p.town, p.traits⟩ : Si) = p := (rfl)
def szSi (p : Si) (l : Int) : Int := if l - (p.town.length : Int) < 0 then -1 else if l - (p.town.length : Int) - (p.traits.length : Int) < 0 then -1 else l - (p.town.length : Int) - (p.traits.length : Int)
theorem szSi_le (p : Si) {l : Int} (h : 0 ≤ szSi p l) : szSi p l ≤ l ∧ (p.traits.length : Int) ≤ l := by
  unfold szSi at *
  split at h
  · omega
  · split at h
    · omega
    · rename_i h1 h2; rw [if_neg h1, if_neg h2]; omega

def q_szSInt : Con := fun args H K => match args with
  | [.c (.sl ps_b ps_i ps), .c (.int .i64 l)] => 0 ≤ l ∧ l ≤ 1048576 ∧ ps ≤ 9223372036854775807 ∧ K (.c (.int .i64 (if l - (ps : Int) < 0 then -1 else l - (ps : Int)))) H
  | _ => False
@[simp ↓] theorem q_szSInt_eq (ps_b ps_i ps : Nat) (l : Int) (H : AHeap) (K : AV → AHeap → Prop) : q_szSInt [.c (.sl ps_b ps_i ps), .c (.int .i64 l)] H K = (0 ≤ l ∧ l ≤ 1048576 ∧ ps ≤ 9223372036854775807 ∧ K (.c (.int .i64 (if l - (ps : Int) < 0 then -1 else l - (ps : Int)))) H) := rfl

theorem laws_szIntS_s : Sound Tryd.prog 9 q_szSInt := by
  intro args H K h
  unfold q_szSInt at h
  split at h
  rotate_left
  all_goals first | exact False.elim h | skip
  rename_i ps_b ps_i ps l
  have hE := soundE_nil (P := Tryd.prog)
  refine acalls_fn laws_szIntS_k hE ⟨by simp, fun hwf => ?_⟩
  obtain ⟨hl1, hl2, hl3, h⟩ := h
  have hw : IntKind.i64.wrap (l - (ps : Int)) = l - (ps : Int) := wrap_id (by omega) (by omega)
  simp (config := {contextual := true, implicitDefEqProofs := false, maxSteps := 60000}) [-Int.not_le, -Int.not_lt, argsF, laws_szIntS_c, hw]
  split <;> ((refine Out.plain hwf ?_ rfl ?_; (repeat first | exact Sub.refl _ | refine Sub.push hwf ?_ _ | refine Sub.set hwf ?_ (by first | exact Nat.le_refl _ | omega) _ | refine Sub.kill hwf ?_ (by first | exact Nat.le_refl _ | omega))); simp_all)

def q_szSi : Con := fun args H K => match args with
  | [.agg p_e, .c (.int .i64 l)] => onv (eSi.dec H p_e) fun p => 0 ≤ l ∧ l ≤ 1048576 ∧ K (.c (.int .i64 (szSi p l))) H
  | _ => False
@[simp ↓] theorem q_szSi_eq (p_e : List AC) (l : Int) (H : AHeap) (K : AV → AHeap → Prop) : q_szSi [.agg p_e, .c (.int .i64 l)] H K = (onv (eSi.dec H p_e) fun p => 0 ≤ l ∧ l ≤ 1048576 ∧ K (.c (.int .i64 (szSi p l))) H) := rfl

theorem laws_szSighting_s : Sound Tryd.prog 4 q_szSi := by
  intro args H K h
  unfold q_szSi at h
  split at h
  rotate_left
  all_goals first | exact False.elim h | skip
  rename_i p_e l
  have h1 := onv_iff.1 h
  clear h
  obtain ⟨p, hd_p, h⟩ := h1
  obtain ⟨b_p, i_p, k_p, rfl, hat_p, htx_p⟩ := eSi_at hd_p
  have hE := soundE_cons laws_szIntS_s (soundE_nil (P := Tryd.prog))
  refine acalls_fn laws_szSighting_k hE ⟨by simp, fun hwf => ?_⟩
  have hsr : SubE H H := SubE.refl H
  have hsp : ∀ H' k, H.n ≤ H'.n → SubE H H' → SubE H (H'.push k) := fun H' k hn hs => SubE.push hwf hn hs k
  have hst : ∀ H', SubE H H' → SubE H H'.toRo := fun H' hs => hs.toRo
  have hss : ∀ H' i k, H.n ≤ i → SubE H H' → SubE H (H'.set i k) := fun H' i k hn hs => SubE.set hwf hn hs k
  have hsk : ∀ H' i, H.n ≤ i → SubE H H' → SubE H (H'.kill i) := fun H' i hn hs => SubE.kill hwf hn hs
  have hb_p : b_p < H.n := (hwf b_p k_p hat_p.blk).1
  have hne_p : (b_p = H.n) = False := eq_false (by omega)
  have hne1_p : ∀ i, (b_p = H.n + i) = False := fun i => eq_false (by omega)
  have hne2_p : (b_p = H.n + 1 + 1) = False ∧ (b_p = H.n + 1 + 1 + 1) = False ∧ (b_p = H.n + 1 + 1 + 1 + 1) = False ∧ (b_p = H.n + 1 + 1 + 1 + 1 + 1) = False ∧ (b_p = H.n + 1 + 1 + 1 + 1 + 1 + 1) = False ∧ (b_p = H.n + 1 + 1 + 1 + 1 + 1 + 1 + 1) = False ∧ (b_p = H.n + 1 + 1 + 1 + 1 + 1 + 1 + 1 + 1) = False ∧ (b_p = H.n + 1 + 1 + 1 + 1 + 1 + 1 + 1 + 1 + 1) = False ∧ (b_p = H.n + 1 + 1 + 1 + 1 + 1 + 1 + 1 + 1 + 1 + 1) = False ∧ (b_p = H.n + 1 + 1 + 1 + 1 + 1 + 1 + 1 + 1 + 1 + 1 + 1) = False ∧ (b_p = H.n + 1 + 1 + 1 + 1 + 1 + 1 + 1 + 1 + 1 + 1 + 1 + 1) = False := ⟨eq_false (by omega), eq_false (by omega), eq_false (by omega), eq_false (by omega), eq_false (by omega), eq_false (by omega), eq_false (by omega), eq_false (by omega), eq_false (by omega), eq_false (by omega), eq_false (by omega)⟩
  have hmx_p : p.traits.length ≤ 9223372036854775807 := by have h1 := (hwf b_p k_p hat_p.blk).2.2; have h2 := hat_p.len; omega
  obtain ⟨hl1, hl2, h⟩ := h
  have hw : IntKind.i64.wrap (l - (p.town.length : Int)) = l - (p.town.length : Int) := wrap_id (by omega) (by omega)
  have hw0 : ∀ x : Int, ¬ x < 0 → 0 ≤ x := fun x hx => by omega
  have hw2 : l - (p.town.length : Int) ≤ 1048576 := by omega
  simp (config := {contextual := true, implicitDefEqProofs := false, maxSteps := 60000}) [-Int.not_le, -Int.not_lt, argsF, laws_szSighting_c, hat_p.blk, hat_p.esz, hat_p.len, hat_p.els, hne_p, hne1_p, hne2_p.1, hne2_p.2.1, hne2_p.2.2.1, hne2_p.2.2.2.1, hne2_p.2.2.2.2.1, hne2_p.2.2.2.2.2.1, hne2_p.2.2.2.2.2.2.1, hne2_p.2.2.2.2.2.2.2.1, hne2_p.2.2.2.2.2.2.2.2.1, hne2_p.2.2.2.2.2.2.2.2.2.1, hne2_p.2.2.2.2.2.2.2.2.2.2, htx_p, hsr, hsp, hst, hss, hsk, hw, hw2, hmx_p, Int.not_lt]
  unfold szSi at h
  refine ite_i (fun h1 => ?_) (fun h1 => ⟨by omega, ?_⟩)
  · rw [if_pos h1] at h; (refine Out.plain hwf ?_ rfl ?_; (repeat first | exact Sub.refl _ | refine Sub.push hwf ?_ _ | refine Sub.set hwf ?_ (by first | exact Nat.le_refl _ | omega) _ | refine Sub.kill hwf ?_ (by first | exact Nat.le_refl _ | omega))); exact h
  · rw [if_neg h1] at h
    by_cases h2 : l - (p.town.length : Int) - (p.traits.length : Int) < 0
    · rw [if_pos h2] at h; rw [if_pos h2, if_pos (by decide)]; (refine Out.plain hwf ?_ rfl ?_; (repeat first | exact Sub.refl _ | refine Sub.push hwf ?_ _ | refine Sub.set hwf ?_ (by first | exact Nat.le_refl _ | omega) _ | refine Sub.kill hwf ?_ (by first | exact Nat.le_refl _ | omega))); exact h
    · rw [if_neg h2] at h; rw [if_neg h2, if_neg h2]; (refine Out.plain hwf ?_ rfl ?_; (repeat first | exact Sub.refl _ | refine Sub.push hwf ?_ _ | refine Sub.set hwf ?_ (by first | exact Nat.le_refl _ | omega) _ | refine Sub.kill hwf ?_ (by first | exact Nat.le_refl _ | omega))); exact h

def q_eqSi : Con := fun args H K => match args with
  | [.agg p_e, .agg r_e] => onv (eSi.dec H p_e) fun p => onv (eSi.dec H r_e) fun r => K (.c (.bool (decide (p = r)))) H
  | _ => False
@[simp ↓] theorem q_eqSi_eq (p_e : List AC) (r_e : List AC) (H : AHeap) (K : AV → AHeap → Prop) : q_eqSi [.agg p_e, .agg r_e] H K = (onv (eSi.dec H p_e) fun p => onv (eSi.dec H r_e) fun r => K (.c (.bool (decide (p = r)))) H) := rfl

theorem si_ext {p r : Si} : p = r ↔ p.id = r.id ∧ p.year = r.year ∧ p.town = r.town ∧ p.traits = r.traits := by
  cases p; cases r; simp

theorem laws_eqSighting_s : Sound Tryd.prog 8 q_eqSi := by
  intro args H K h
  unfold q_eqSi at h
  split at h
  rotate_left
  all_goals first | exact False.elim h | skip
  rename_i p_e r_e
  have h1 := onv_iff.1 h
  clear h
  obtain ⟨p, hd_p, h⟩ := h1
  obtain ⟨b_p, i_p, k_p, rfl, hat_p, htx_p⟩ := eSi_at hd_p
  have h1 := onv_iff.1 h
  clear h
  obtain ⟨r, hd_r, h⟩ := h1
  obtain ⟨b_r, i_r, k_r, rfl, hat_r, htx_r⟩ := eSi_at hd_r
  have hE := soundE_cons laws_eqIntS_s (soundE_nil (P := Tryd.prog))
  refine acalls_fn laws_eqSighting_k hE ⟨by simp, fun hwf => ?_⟩
  have hsr : SubE H H := SubE.refl H
  have hsp : ∀ H' k, H.n ≤ H'.n → SubE H H' → SubE H (H'.push k) := fun H' k hn hs => SubE.push hwf hn hs k
  have hst : ∀ H', SubE H H' → SubE H H'.toRo := fun H' hs => hs.toRo
  have hss : ∀ H' i k, H.n ≤ i → SubE H H' → SubE H (H'.set i k) := fun H' i k hn hs => SubE.set hwf hn hs k
  have hsk : ∀ H' i, H.n ≤ i → SubE H H' → SubE H (H'.kill i) := fun H' i hn hs => SubE.kill hwf hn hs
  have hb_p : b_p < H.n := (hwf b_p k_p hat_p.blk).1
  have hne_p : (b_p = H.n) = False := eq_false (by omega)
  have hne1_p : ∀ i, (b_p = H.n + i) = False := fun i => eq_false (by omega)
  have hne2_p : (b_p = H.n + 1 + 1) = False ∧ (b_p = H.n + 1 + 1 + 1) = False ∧ (b_p = H.n + 1 + 1 + 1 + 1) = False ∧ (b_p = H.n + 1 + 1 + 1 + 1 + 1) = False ∧ (b_p = H.n + 1 + 1 + 1 + 1 + 1 + 1) = False ∧ (b_p = H.n + 1 + 1 + 1 + 1 + 1 + 1 + 1) = False ∧ (b_p = H.n + 1 + 1 + 1 + 1 + 1 + 1 + 1 + 1) = False ∧ (b_p = H.n + 1 + 1 + 1 + 1 + 1 + 1 + 1 + 1 + 1) = False ∧ (b_p = H.n + 1 + 1 + 1 + 1 + 1 + 1 + 1 + 1 + 1 + 1) = False ∧ (b_p = H.n + 1 + 1 + 1 + 1 + 1 + 1 + 1 + 1 + 1 + 1 + 1) = False ∧ (b_p = H.n + 1 + 1 + 1 + 1 + 1 + 1 + 1 + 1 + 1 + 1 + 1 + 1) = False := ⟨eq_false (by omega), eq_false (by omega), eq_false (by omega), eq_false (by omega), eq_false (by omega), eq_false (by omega), eq_false (by omega), eq_false (by omega), eq_false (by omega), eq_false (by omega), eq_false (by omega)⟩
  have hmx_p : p.traits.length ≤ 9223372036854775807 := by have h1 := (hwf b_p k_p hat_p.blk).2.2; have h2 := hat_p.len; omega
  have hb_r : b_r < H.n := (hwf b_r k_r hat_r.blk).1
  have hne_r : (b_r = H.n) = False := eq_false (by omega)
  have hne1_r : ∀ i, (b_r = H.n + i) = False := fun i => eq_false (by omega)
  have hne2_r : (b_r = H.n + 1 + 1) = False ∧ (b_r = H.n + 1 + 1 + 1) = False ∧ (b_r = H.n + 1 + 1 + 1 + 1) = False ∧ (b_r = H.n + 1 + 1 + 1 + 1 + 1) = False ∧ (b_r = H.n + 1 + 1 + 1 + 1 + 1 + 1) = False ∧ (b_r = H.n + 1 + 1 + 1 + 1 + 1 + 1 + 1) = False ∧ (b_r = H.n + 1 + 1 + 1 + 1 + 1 + 1 + 1 + 1) = False ∧ (b_r = H.n + 1 + 1 + 1 + 1 + 1 + 1 + 1 + 1 + 1) = False ∧ (b_r = H.n + 1 + 1 + 1 + 1 + 1 + 1 + 1 + 1 + 1 + 1) = False ∧ (b_r = H.n + 1 + 1 + 1 + 1 + 1 + 1 + 1 + 1 + 1 + 1 + 1) = False ∧ (b_r = H.n + 1 + 1 + 1 + 1 + 1 + 1 + 1 + 1 + 1 + 1 + 1 + 1) = False := ⟨eq_false (by omega), eq_false (by omega), eq_false (by omega), eq_false (by omega), eq_false (by omega), eq_false (by omega), eq_false (by omega), eq_false (by omega), eq_false (by omega), eq_false (by omega), eq_false (by omega)⟩
  have hmx_r : r.traits.length ≤ 9223372036854775807 := by have h1 := (hwf b_r k_r hat_r.blk).2.2; have h2 := hat_r.len; omega
  simp (config := {contextual := true, implicitDefEqProofs := false, maxSteps := 60000}) [-Int.not_le, -Int.not_lt, argsF, laws_eqSighting_c, hat_p.blk, hat_p.esz, hat_p.len, hat_p.els, hne_p, hne1_p, hne2_p.1, hne2_p.2.1, hne2_p.2.2.1, hne2_p.2.2.2.1, hne2_p.2.2.2.2.1, hne2_p.2.2.2.2.2.1, hne2_p.2.2.2.2.2.2.1, hne2_p.2.2.2.2.2.2.2.1, hne2_p.2.2.2.2.2.2.2.2.1, hne2_p.2.2.2.2.2.2.2.2.2.1, hne2_p.2.2.2.2.2.2.2.2.2.2, hat_r.blk, hat_r.esz, hat_r.len, hat_r.els, hne_r, hne1_r, hne2_r.1, hne2_r.2.1, hne2_r.2.2.1, hne2_r.2.2.2.1, hne2_r.2.2.2.2.1, hne2_r.2.2.2.2.2.1, hne2_r.2.2.2.2.2.2.1, hne2_r.2.2.2.2.2.2.2.1, hne2_r.2.2.2.2.2.2.2.2.1, hne2_r.2.2.2.2.2.2.2.2.2.1, hne2_r.2.2.2.2.2.2.2.2.2.2, htx_p, htx_r, hsr, hsp, hst, hss, hsk]
  have e : decide (p = r) = (decide (p.id = r.id) && (decide (p.year = r.year) && (decide (p.town = r.town) && decide (p.traits = r.traits)))) := by
    rw [Bool.eq_iff_iff]; simp only [decide_eq_true_eq, Bool.and_eq_true]; exact si_ext
  rw [e] at h
  clear e
  repeat' (refine ite_i (fun _ => ?_) (fun _ => ?_))
  all_goals (refine Out.plain hwf ?_ rfl ?_; (repeat first | exact Sub.refl _ | refine Sub.push hwf ?_ _ | refine Sub.set hwf ?_ (by first | exact Nat.le_refl _ | omega) _ | refine Sub.kill hwf ?_ (by first | exact Nat.le_refl _ | omega)))
  all_goals simp_all

end Go.Proofs.YtnbjiigcldmgoaaDoor
