/- A sighting added. -/
import Derived.Test.YtnbjiigcldmgoaaSiK
import Derived.Test.YtnbjiigcldmgoaaSiM
set_option maxRecDepth 8000
set_option linter.unusedSimpArgs false
set_option linter.unusedVariables false
namespace Go.Proofs.Ytnbjiigcldmgoaa
open Go Go.RowKit

def q_own : Con := fun args H K => match args with
  | [ps_v] => eI.rd H (fun ps => ps.length ≤ 1048576 ∧ K (.c (.sl (H.n) (0) (ps.length))) (H.push (rowK eI 3 ps))) ps_v
  | _ => False
@[simp ↓] theorem q_own_eq (ps_v : AV) (H : AHeap) (K : AV → AHeap → Prop) : q_own [ps_v] H K = (eI.rd H (fun ps => ps.length ≤ 1048576 ∧ K (.c (.sl (H.n) (0) (ps.length))) (H.push (rowK eI 3 ps))) ps_v) := rfl

theorem slices_Clone___int_int_s : Sound Try.prog 63 q_own := by
  intro args H K h
  unfold q_own at h
  split at h
  rotate_left
  all_goals first | exact False.elim h | skip
  rename_i ps_v
  have h1 := Enc.rd_at h
  clear h
  obtain ⟨b_ps, i_ps, k_ps, ps, rfl, hat_ps, h⟩ := h1
  have hE := soundE_nil (P := Try.prog)
  refine acalls_fn slices_Clone___int_int__k hE ⟨by simp, fun hwf => ?_⟩
  have hb_ps : b_ps < H.n := (hwf b_ps k_ps hat_ps.blk).1
  have hne_ps : (b_ps = H.n) = False := eq_false (by omega)
  have hne1_ps : ∀ i, (b_ps = H.n + i) = False := fun i => eq_false (by omega)
  have hne2_ps : (b_ps = H.n + 1 + 1) = False ∧ (b_ps = H.n + 1 + 1 + 1) = False ∧ (b_ps = H.n + 1 + 1 + 1 + 1) = False ∧ (b_ps = H.n + 1 + 1 + 1 + 1 + 1) = False ∧ (b_ps = H.n + 1 + 1 + 1 + 1 + 1 + 1) = False ∧ (b_ps = H.n + 1 + 1 + 1 + 1 + 1 + 1 + 1) = False ∧ (b_ps = H.n + 1 + 1 + 1 + 1 + 1 + 1 + 1 + 1) = False ∧ (b_ps = H.n + 1 + 1 + 1 + 1 + 1 + 1 + 1 + 1 + 1) = False ∧ (b_ps = H.n + 1 + 1 + 1 + 1 + 1 + 1 + 1 + 1 + 1 + 1) = False ∧ (b_ps = H.n + 1 + 1 + 1 + 1 + 1 + 1 + 1 + 1 + 1 + 1 + 1) = False ∧ (b_ps = H.n + 1 + 1 + 1 + 1 + 1 + 1 + 1 + 1 + 1 + 1 + 1 + 1) = False := ⟨eq_false (by omega), eq_false (by omega), eq_false (by omega), eq_false (by omega), eq_false (by omega), eq_false (by omega), eq_false (by omega), eq_false (by omega), eq_false (by omega), eq_false (by omega), eq_false (by omega)⟩
  have hmx_ps : ps.length ≤ 9223372036854775807 := by have h1 := (hwf b_ps k_ps hat_ps.blk).2.2; have h2 := hat_ps.len; omega

  obtain ⟨hl, h⟩ := h
  have hl1 : ps.length * 8 ≤ 140737488355328 := by omega
  have hl2 : ps.length ≤ 140737488355328 := by omega
  simp (config := {contextual := true, implicitDefEqProofs := false, maxSteps := 60000}) [-Int.not_le, -Int.not_lt, argsF, slices_Clone___int_int__c, hat_ps.blk, hat_ps.esz, hat_ps.len, hat_ps.els, hne_ps, hne1_ps, hne2_ps.1, hne2_ps.2.1, hne2_ps.2.2.1, hne2_ps.2.2.2.1, hne2_ps.2.2.2.2.1, hne2_ps.2.2.2.2.2.1, hne2_ps.2.2.2.2.2.2.1, hne2_ps.2.2.2.2.2.2.2.1, hne2_ps.2.2.2.2.2.2.2.2.1, hne2_ps.2.2.2.2.2.2.2.2.2.1, hne2_ps.2.2.2.2.2.2.2.2.2.2, hl1, hl2]
  refine ⟨?_, fun h0 => ?_⟩
  · first | exact (.one (c := none) hwf (by (repeat first | exact Sub.refl _ | refine Sub.push hwf ?_ _ | refine Sub.set hwf ?_ (by first | exact Nat.le_refl _ | omega) _ | refine Sub.kill hwf ?_ (by first | exact Nat.le_refl _ | omega))) ⟨rfl, rfl⟩ (plain_map (fun _ => rfl) _) (by simp [frOk, AV.okR, AV.ok1, AC.okR, AV.ren, AV.ren1, AC.ren, AFrame.get, pl1_old, *]; first | done | omega) h) | exact (.one (c := some (H.n)) hwf (by (repeat first | exact Sub.refl _ | refine Sub.push hwf ?_ _ | refine Sub.set hwf ?_ (by first | exact Nat.le_refl _ | omega) _ | refine Sub.kill hwf ?_ (by first | exact Nat.le_refl _ | omega))) ⟨by omega, by simp [push_b, set_b, kill_b, rowK]; done⟩ (plain_map (fun _ => rfl) _) (by simp [frOk, AV.okR, AV.ok1, AC.okR, AV.ren, AV.ren1, AC.ren, AFrame.get, pl1_old, *]; first | done | omega) h) | exact (.one (c := some (H.n + 1)) hwf (by (repeat first | exact Sub.refl _ | refine Sub.push hwf ?_ _ | refine Sub.set hwf ?_ (by first | exact Nat.le_refl _ | omega) _ | refine Sub.kill hwf ?_ (by first | exact Nat.le_refl _ | omega))) ⟨by omega, by simp [push_b, set_b, kill_b, rowK]; done⟩ (plain_map (fun _ => rfl) _) (by simp [frOk, AV.okR, AV.ok1, AC.okR, AV.ren, AV.ren1, AC.ren, AFrame.get, pl1_old, *]; first | done | omega) h) | exact (.one (c := some (H.n + 2)) hwf (by (repeat first | exact Sub.refl _ | refine Sub.push hwf ?_ _ | refine Sub.set hwf ?_ (by first | exact Nat.le_refl _ | omega) _ | refine Sub.kill hwf ?_ (by first | exact Nat.le_refl _ | omega))) ⟨by omega, by simp [push_b, set_b, kill_b, rowK]; done⟩ (plain_map (fun _ => rfl) _) (by simp [frOk, AV.okR, AV.ok1, AC.okR, AV.ren, AV.ren1, AC.ren, AFrame.get, pl1_old, *]; first | done | omega) h) | exact (.one (c := some (H.n + 3)) hwf (by (repeat first | exact Sub.refl _ | refine Sub.push hwf ?_ _ | refine Sub.set hwf ?_ (by first | exact Nat.le_refl _ | omega) _ | refine Sub.kill hwf ?_ (by first | exact Nat.le_refl _ | omega))) ⟨by omega, by simp [push_b, set_b, kill_b, rowK]; done⟩ (plain_map (fun _ => rfl) _) (by simp [frOk, AV.okR, AV.ok1, AC.okR, AV.ren, AV.ren1, AC.ren, AFrame.get, pl1_old, *]; first | done | omega) h) | exact (.one (c := some (H.n + 4)) hwf (by (repeat first | exact Sub.refl _ | refine Sub.push hwf ?_ _ | refine Sub.set hwf ?_ (by first | exact Nat.le_refl _ | omega) _ | refine Sub.kill hwf ?_ (by first | exact Nat.le_refl _ | omega))) ⟨by omega, by simp [push_b, set_b, kill_b, rowK]; done⟩ (plain_map (fun _ => rfl) _) (by simp [frOk, AV.okR, AV.ok1, AC.okR, AV.ren, AV.ren1, AC.ren, AFrame.get, pl1_old, *]; first | done | omega) h)
  · have e := List.eq_nil_of_length_eq_zero (l := ps) (by simpa using h0)
    subst e
    first | exact (.one (c := none) hwf (by (repeat first | exact Sub.refl _ | refine Sub.push hwf ?_ _ | refine Sub.set hwf ?_ (by first | exact Nat.le_refl _ | omega) _ | refine Sub.kill hwf ?_ (by first | exact Nat.le_refl _ | omega))) ⟨rfl, rfl⟩ (plain_map (fun _ => rfl) _) (by simp [frOk, AV.okR, AV.ok1, AC.okR, AV.ren, AV.ren1, AC.ren, AFrame.get, pl1_old, *]; first | done | omega) h) | exact (.one (c := some (H.n)) hwf (by (repeat first | exact Sub.refl _ | refine Sub.push hwf ?_ _ | refine Sub.set hwf ?_ (by first | exact Nat.le_refl _ | omega) _ | refine Sub.kill hwf ?_ (by first | exact Nat.le_refl _ | omega))) ⟨by omega, by simp [push_b, set_b, kill_b, rowK]; done⟩ (plain_map (fun _ => rfl) _) (by simp [frOk, AV.okR, AV.ok1, AC.okR, AV.ren, AV.ren1, AC.ren, AFrame.get, pl1_old, *]; first | done | omega) h) | exact (.one (c := some (H.n + 1)) hwf (by (repeat first | exact Sub.refl _ | refine Sub.push hwf ?_ _ | refine Sub.set hwf ?_ (by first | exact Nat.le_refl _ | omega) _ | refine Sub.kill hwf ?_ (by first | exact Nat.le_refl _ | omega))) ⟨by omega, by simp [push_b, set_b, kill_b, rowK]; done⟩ (plain_map (fun _ => rfl) _) (by simp [frOk, AV.okR, AV.ok1, AC.okR, AV.ren, AV.ren1, AC.ren, AFrame.get, pl1_old, *]; first | done | omega) h) | exact (.one (c := some (H.n + 2)) hwf (by (repeat first | exact Sub.refl _ | refine Sub.push hwf ?_ _ | refine Sub.set hwf ?_ (by first | exact Nat.le_refl _ | omega) _ | refine Sub.kill hwf ?_ (by first | exact Nat.le_refl _ | omega))) ⟨by omega, by simp [push_b, set_b, kill_b, rowK]; done⟩ (plain_map (fun _ => rfl) _) (by simp [frOk, AV.okR, AV.ok1, AC.okR, AV.ren, AV.ren1, AC.ren, AFrame.get, pl1_old, *]; first | done | omega) h) | exact (.one (c := some (H.n + 3)) hwf (by (repeat first | exact Sub.refl _ | refine Sub.push hwf ?_ _ | refine Sub.set hwf ?_ (by first | exact Nat.le_refl _ | omega) _ | refine Sub.kill hwf ?_ (by first | exact Nat.le_refl _ | omega))) ⟨by omega, by simp [push_b, set_b, kill_b, rowK]; done⟩ (plain_map (fun _ => rfl) _) (by simp [frOk, AV.okR, AV.ok1, AC.okR, AV.ren, AV.ren1, AC.ren, AFrame.get, pl1_old, *]; first | done | omega) h) | exact (.one (c := some (H.n + 4)) hwf (by (repeat first | exact Sub.refl _ | refine Sub.push hwf ?_ _ | refine Sub.set hwf ?_ (by first | exact Nat.le_refl _ | omega) _ | refine Sub.kill hwf ?_ (by first | exact Nat.le_refl _ | omega))) ⟨by omega, by simp [push_b, set_b, kill_b, rowK]; done⟩ (plain_map (fun _ => rfl) _) (by simp [frOk, AV.okR, AV.ok1, AC.okR, AV.ren, AV.ren1, AC.ren, AFrame.get, pl1_old, *]; first | done | omega) h)

theorem spec_l1Own_s : Sound Try.prog 61 q_own := by
  intro args H K h
  unfold q_own at h
  split at h
  rotate_left
  all_goals first | exact False.elim h | skip
  rename_i ps_v
  have h1 := Enc.rd_at h
  clear h
  obtain ⟨b_ps, i_ps, k_ps, ps, rfl, hat_ps, h⟩ := h1
  have hE := soundE_nil (P := Try.prog)
  refine acalls_fn spec_l1Own_k hE ⟨by simp, fun hwf => ?_⟩
  have hb_ps : b_ps < H.n := (hwf b_ps k_ps hat_ps.blk).1
  have hne_ps : (b_ps = H.n) = False := eq_false (by omega)
  have hne1_ps : ∀ i, (b_ps = H.n + i) = False := fun i => eq_false (by omega)
  have hne2_ps : (b_ps = H.n + 1 + 1) = False ∧ (b_ps = H.n + 1 + 1 + 1) = False ∧ (b_ps = H.n + 1 + 1 + 1 + 1) = False ∧ (b_ps = H.n + 1 + 1 + 1 + 1 + 1) = False ∧ (b_ps = H.n + 1 + 1 + 1 + 1 + 1 + 1) = False ∧ (b_ps = H.n + 1 + 1 + 1 + 1 + 1 + 1 + 1) = False ∧ (b_ps = H.n + 1 + 1 + 1 + 1 + 1 + 1 + 1 + 1) = False ∧ (b_ps = H.n + 1 + 1 + 1 + 1 + 1 + 1 + 1 + 1 + 1) = False ∧ (b_ps = H.n + 1 + 1 + 1 + 1 + 1 + 1 + 1 + 1 + 1 + 1) = False ∧ (b_ps = H.n + 1 + 1 + 1 + 1 + 1 + 1 + 1 + 1 + 1 + 1 + 1) = False ∧ (b_ps = H.n + 1 + 1 + 1 + 1 + 1 + 1 + 1 + 1 + 1 + 1 + 1 + 1) = False := ⟨eq_false (by omega), eq_false (by omega), eq_false (by omega), eq_false (by omega), eq_false (by omega), eq_false (by omega), eq_false (by omega), eq_false (by omega), eq_false (by omega), eq_false (by omega), eq_false (by omega)⟩
  have hmx_ps : ps.length ≤ 9223372036854775807 := by have h1 := (hwf b_ps k_ps hat_ps.blk).2.2; have h2 := hat_ps.len; omega

  obtain ⟨hl, h⟩ := h
  have hl1 : ps.length * 8 ≤ 140737488355328 := by omega
  have hl2 : ps.length ≤ 140737488355328 := by omega
  simp (config := {contextual := true, implicitDefEqProofs := false, maxSteps := 60000}) [-Int.not_le, -Int.not_lt, argsF, spec_l1Own_c, hat_ps.blk, hat_ps.esz, hat_ps.len, hat_ps.els, hne_ps, hne1_ps, hne2_ps.1, hne2_ps.2.1, hne2_ps.2.2.1, hne2_ps.2.2.2.1, hne2_ps.2.2.2.2.1, hne2_ps.2.2.2.2.2.1, hne2_ps.2.2.2.2.2.2.1, hne2_ps.2.2.2.2.2.2.2.1, hne2_ps.2.2.2.2.2.2.2.2.1, hne2_ps.2.2.2.2.2.2.2.2.2.1, hne2_ps.2.2.2.2.2.2.2.2.2.2, hl1, hl2]
  first | exact (.one (c := none) hwf (by (repeat first | exact Sub.refl _ | refine Sub.push hwf ?_ _ | refine Sub.set hwf ?_ (by first | exact Nat.le_refl _ | omega) _ | refine Sub.kill hwf ?_ (by first | exact Nat.le_refl _ | omega))) ⟨rfl, rfl⟩ (plain_map (fun _ => rfl) _) (by simp [frOk, AV.okR, AV.ok1, AC.okR, AV.ren, AV.ren1, AC.ren, AFrame.get, pl1_old, *]; first | done | omega) h) | exact (.one (c := some (H.n)) hwf (by (repeat first | exact Sub.refl _ | refine Sub.push hwf ?_ _ | refine Sub.set hwf ?_ (by first | exact Nat.le_refl _ | omega) _ | refine Sub.kill hwf ?_ (by first | exact Nat.le_refl _ | omega))) ⟨by omega, by simp [push_b, set_b, kill_b, rowK]; done⟩ (plain_map (fun _ => rfl) _) (by simp [frOk, AV.okR, AV.ok1, AC.okR, AV.ren, AV.ren1, AC.ren, AFrame.get, pl1_old, *]; first | done | omega) h) | exact (.one (c := some (H.n + 1)) hwf (by (repeat first | exact Sub.refl _ | refine Sub.push hwf ?_ _ | refine Sub.set hwf ?_ (by first | exact Nat.le_refl _ | omega) _ | refine Sub.kill hwf ?_ (by first | exact Nat.le_refl _ | omega))) ⟨by omega, by simp [push_b, set_b, kill_b, rowK]; done⟩ (plain_map (fun _ => rfl) _) (by simp [frOk, AV.okR, AV.ok1, AC.okR, AV.ren, AV.ren1, AC.ren, AFrame.get, pl1_old, *]; first | done | omega) h) | exact (.one (c := some (H.n + 2)) hwf (by (repeat first | exact Sub.refl _ | refine Sub.push hwf ?_ _ | refine Sub.set hwf ?_ (by first | exact Nat.le_refl _ | omega) _ | refine Sub.kill hwf ?_ (by first | exact Nat.le_refl _ | omega))) ⟨by omega, by simp [push_b, set_b, kill_b, rowK]; done⟩ (plain_map (fun _ => rfl) _) (by simp [frOk, AV.okR, AV.ok1, AC.okR, AV.ren, AV.ren1, AC.ren, AFrame.get, pl1_old, *]; first | done | omega) h) | exact (.one (c := some (H.n + 3)) hwf (by (repeat first | exact Sub.refl _ | refine Sub.push hwf ?_ _ | refine Sub.set hwf ?_ (by first | exact Nat.le_refl _ | omega) _ | refine Sub.kill hwf ?_ (by first | exact Nat.le_refl _ | omega))) ⟨by omega, by simp [push_b, set_b, kill_b, rowK]; done⟩ (plain_map (fun _ => rfl) _) (by simp [frOk, AV.okR, AV.ok1, AC.okR, AV.ren, AV.ren1, AC.ren, AFrame.get, pl1_old, *]; first | done | omega) h) | exact (.one (c := some (H.n + 4)) hwf (by (repeat first | exact Sub.refl _ | refine Sub.push hwf ?_ _ | refine Sub.set hwf ?_ (by first | exact Nat.le_refl _ | omega) _ | refine Sub.kill hwf ?_ (by first | exact Nat.le_refl _ | omega))) ⟨by omega, by simp [push_b, set_b, kill_b, rowK]; done⟩ (plain_map (fun _ => rfl) _) (by simp [frOk, AV.okR, AV.ok1, AC.okR, AV.ren, AV.ren1, AC.ren, AFrame.get, pl1_old, *]; first | done | omega) h)

set_option maxHeartbeats 4000000
/-- one more sighting in a new block -/
theorem SiRows.addG {H H' : AHeap} {b b' c : Nat} {cs : List Nat} {ps : List Si} {p : Si} (h : SiRows H b cs ps) (hold : ∀ i ∈ cs, H'.b i = H.b i) (hblk : H'.b b' = some ⟨63, 4, false, false, List.zipWith siCells (cs ++ [c]) (ps ++ [p])⟩)
    (hc : H'.b c = some (rowK eI 3 p.traits)) (hn : c ∉ cs) (hb' : b' ∉ cs ++ [c]) : SiRows H' b' (cs ++ [c]) (ps ++ [p]) := by
  refine ⟨by simp [h.len], List.nodup_append.2 ⟨h.nd, by simp, fun x hx y hy e => by rw [List.mem_singleton.1 hy] at e; exact hn (e ▸ hx)⟩, hb', hblk, fun j c' q hj hq => ?_⟩
  rcases Nat.lt_or_ge j cs.length with h1 | h1
  · rw [List.getElem?_append_left h1] at hj
    rw [List.getElem?_append_left (by have := h.len; omega)] at hq
    rw [hold c' (List.mem_of_getElem? hj)]
    exact h.row j c' q hj hq
  · have hj2 : j = cs.length := by have := (List.getElem?_eq_some_iff.1 hj).1; simp at this; omega
    subst hj2
    rw [List.getElem?_append_right (Nat.le_refl _)] at hj
    rw [List.getElem?_append_right (by have := h.len; omega)] at hq
    simp [h.len] at hj hq
    subst hj hq
    exact hc
def siK (cs : List Nat) (ps : List Si) : ABlk := ⟨63, 4, false, false, List.zipWith siCells cs ps⟩
@[simp] theorem siK_els (cs : List Nat) (ps : List Si) : (siK cs ps).els = List.zipWith siCells cs ps := rfl
@[simp] theorem siK_esz (cs : List Nat) (ps : List Si) : (siK cs ps).esz = 4 := rfl
@[simp] theorem siK_ro (cs : List Nat) (ps : List Si) : (siK cs ps).ro = false := rfl
@[simp] theorem siK_fz (cs : List Nat) (ps : List Si) : (siK cs ps).fz = false := rfl
@[simp] theorem siK_ty (cs : List Nat) (ps : List Si) : (siK cs ps).ty = 63 := rfl
theorem siK_add {cs : List Nat} {ps : List Si} {p : Si} {c : Nat} {e : List AC} (hl : cs.length = ps.length) (he : e = siCells c p) : (⟨63, 4, false, false, List.take ps.length (List.zipWith siCells cs ps) ++ [e]⟩ : ABlk) = siK (cs ++ [c]) (ps ++ [p]) := by
  subst he
  rw [List.take_of_length_le (by simp [hl])]
  simp [siK, List.zipWith_append hl]
theorem siK_rows {H : AHeap} : SiRows (H.push (siK [] [])) H.n [] [] := ⟨rfl, by simp, by simp, by simp [push_b, siK], fun j c g hc => by simp at hc⟩
theorem SiRows.blkK {H : AHeap} {b : Nat} {cs : List Nat} {ps : List Si} (h : SiRows H b cs ps) : H.b b = some (siK cs ps) := h.blk
theorem SiRows.bnd {H : AHeap} {b : Nat} {cs : List Nat} {rows : List Si} (h : SiRows H b cs rows) (hw : H.WF) : ∀ c ∈ b :: cs, c < H.n := fun c hc => by
  rcases List.mem_cons.1 hc with rfl | hc
  · exact (hw _ _ h.blk).1
  · obtain ⟨j, hj⟩ := List.getElem?_of_mem hc
    have hjl := (List.getElem?_eq_some_iff.1 hj).1
    have hjr : j < rows.length := by have := h.len; omega
    exact (hw _ _ (h.row j c rows[j] hj (List.getElem?_eq_getElem hjr))).1
theorem SiRows.out {H H' : AHeap} {b lo hi : Nat} {cs : List Nat} {rows : List Si} (h : SiRows H b cs rows) (hs : SubOut lo hi H H') (hb : ∀ c ∈ b :: cs, c < lo ∨ hi ≤ c) : SiRows H' b cs rows :=
  ⟨h.len, h.nd, h.nb, (hs.out _ (hb _ (by simp))).trans h.blk, fun j c p hc hp => (hs.out _ (hb _ (by simp [List.mem_of_getElem? hc]))).trans (h.row j c p hc hp)⟩
theorem SiRows.dec {H : AHeap} {b : Nat} {cs : List Nat} {ps : List Si} (h : SiRows H b cs ps) (htx : ∀ p ∈ ps, p.town.length ≤ 9223372036854775807) : ∀ H', SubE H H' → eSi.decL H' (List.zipWith siCells cs ps) = some ps := fun _ hs =>
  eSi.decL_mono hs (eSi.decL_zip (H := H) siCells cs ps h.len fun j c p hc hp => eSi_cells (h.row j c p hc hp) (htx p (List.mem_of_getElem? hp)))
theorem SiRows.add1 {H : AHeap} {b : Nat} {cs : List Nat} {ps : List Si} (h : SiRows H b cs ps) (hw : H.WF) (p : Si) (K : ABlk) :
    SiRows ((((H.push (rowK eI 3 p.traits)).push K).kill b).push (siK (cs ++ [H.n]) (ps ++ [p]))) (H.n + 1 + 1) (cs ++ [H.n]) (ps ++ [p]) := by
  have hbd := h.bnd hw
  have hb0 := hbd b (by simp)
  refine h.addG (fun i hi => ?_) (by simp [push_b, siK]) ?_ (fun hi => ?_) (fun hi => ?_)
  · have h1 := hbd i (by simp [hi])
    have h2 : i ≠ b := fun e => h.nb (e ▸ hi)
    rw [push_b, if_neg (by simp only [kill_n, push_n]; omega), kill_b, if_neg h2, push_b, if_neg (by simp only [push_n]; omega), push_b, if_neg (by omega)]
  · rw [push_b, if_neg (by simp only [kill_n, push_n]; omega), kill_b, if_neg (by omega), push_b, if_neg (by simp only [push_n]; omega), push_b, if_pos rfl]
  · have := hbd _ (List.mem_cons_of_mem _ hi); omega
  · rcases List.mem_append.1 hi with hi | hi
    · have := hbd _ (List.mem_cons_of_mem _ hi); omega
    · have := List.mem_singleton.1 hi; omega
def adId (ps : List Si) : Int := match ps.getLast? with
  | none => 1
  | some p => IntKind.i64.wrap (p.id + 1)
def adOut (ps : List Si) (y : Int) (t : List UInt8) (tr : List Int) : List Si := ps ++ [⟨adId ps, y, t, tr⟩]
def adRes (ps : List Si) (y : Int) (t : List UInt8) (tr : List Int) : List Si × Int × Bool := if areSi ps = true then if areSi (adOut ps y t tr) = true then (adOut ps y t tr, adId ps, true) else ([], 0, false) else ([], 0, false)
structure AX where
  H : AHeap
  b : Nat
  cs : List Nat
structure AX.Ok (x : AX) (H1 : AHeap) (n0 : Nat) (done : List Si) : Prop where
  sub : Sub H1 x.H
  rows : SiRows x.H x.b x.cs done
  ge : ∀ c ∈ x.b :: x.cs, n0 ≤ c
theorem AX.Ok.add {x : AX} {H1 : AHeap} {n0 : Nat} {done : List Si} (hok : x.Ok H1 n0 done) (hwf0 : H1.WF) (hnx : H1.n ≤ x.H.n) (hw : x.H.WF) (p : Si) (K1 K2 K3 : ABlk) (hn : H1.n = n0 := by rfl) :
    (⟨(((((x.H.push K1).push (rowK eI 3 p.traits)).set x.H.n K2).push K3).kill x.b).push (siK (x.cs ++ [x.H.n + 1]) (done ++ [p])), x.H.n + 1 + 1 + 1, x.cs ++ [x.H.n + 1]⟩ : AX).Ok H1 n0 (done ++ [p]) := by
  have hbd := hok.rows.bnd hw
  refine ⟨Sub.push hwf0 (Sub.kill hwf0 (Sub.push hwf0 (Sub.set hwf0 (Sub.push hwf0 (Sub.push hwf0 hok.sub _) _) hnx _) _) (hn ▸ hok.ge _ (by simp))) _, hok.rows.addG (fun i hi => ?_) ?_ ?_ (fun hi => ?_) (fun hi => ?_), fun c hc => ?_⟩
  · have h1 := hbd i (by simp [hi])
    have h2 : i ≠ x.b := fun e => hok.rows.nb (e ▸ hi)
    show ((((((x.H.push K1).push (rowK eI 3 p.traits)).set x.H.n K2).push K3).kill x.b).push _).b i = _
    rw [push_b, if_neg (by simp only [kill_n, push_n, set_n]; omega), kill_b, if_neg h2, push_b, if_neg (by simp only [push_n, set_n]; omega), set_b, if_neg (by omega), push_b, if_neg (by simp only [push_n]; omega), push_b, if_neg (by omega)]
  · simp [push_b, siK]
  · show ((((((x.H.push K1).push (rowK eI 3 p.traits)).set x.H.n K2).push K3).kill x.b).push _).b (x.H.n + 1) = _
    have hxb := hbd x.b (by simp)
    rw [push_b, if_neg (by simp only [kill_n, push_n, set_n]; omega), kill_b, if_neg (by omega), push_b, if_neg (by simp only [push_n, set_n]; omega), set_b, if_neg (by omega), push_b, if_pos (by simp only [push_n])]
  · have := hbd _ (List.mem_cons_of_mem _ hi); omega
  · rcases List.mem_append.1 hi with hi | hi
    · have := hbd _ (List.mem_cons_of_mem _ hi); simp only at this; omega
    · have := List.mem_singleton.1 hi; simp only at this; omega
  · rcases List.mem_cons.1 hc with rfl | hc
    · simp only; omega
    · rcases List.mem_append.1 hc with hc | hc
      · exact hok.ge c (by simp [hc])
      · rw [List.mem_singleton.1 hc]; omega

def q_cp : Con := fun args H K => match args with
  | [ps_v] => eSi.rd H (fun ps => ps.length ≤ 1048576 ∧ (∀ p ∈ ps, p.traits.length ≤ 1048576) ∧ Stop (∀ H' b cs, H'.WF → Sub H H' → SiRows H' b cs ps → (∀ c ∈ b :: cs, H.n ≤ c) → K (.c (.sl (b) (0) (ps.length))) H') ()) ps_v
  | _ => False
@[simp ↓] theorem q_cp_eq (ps_v : AV) (H : AHeap) (K : AV → AHeap → Prop) : q_cp [ps_v] H K = (eSi.rd H (fun ps => ps.length ≤ 1048576 ∧ (∀ p ∈ ps, p.traits.length ≤ 1048576) ∧ Stop (∀ H' b cs, H'.WF → Sub H H' → SiRows H' b cs ps → (∀ c ∈ b :: cs, H.n ≤ c) → K (.c (.sl (b) (0) (ps.length))) H') ()) ps_v) := rfl

theorem impl_copySightings_s : Sound Try.prog 62 q_cp := by
  intro args H K h
  unfold q_cp at h
  split at h
  rotate_left
  all_goals first | exact False.elim h | skip
  rename_i ps_v
  have h1 := EncH.rd_at h
  clear h
  obtain ⟨b_ps, i_ps, k_ps, ps, rfl, hat_ps, h⟩ := h1
  have hE := soundE_cons slices_Clone___int_int_s (soundE_nil (P := Try.prog))
  refine acalls_fn impl_copySightings_k hE ⟨by simp, fun hwf => ?_⟩
  have hsr : SubE H H := SubE.refl H
  have hsp : ∀ H' k, H.n ≤ H'.n → SubE H H' → SubE H (H'.push k) := fun H' k hn hs => SubE.push hwf hn hs k
  have hst : ∀ H', SubE H H' → SubE H H'.toRo := fun H' hs => hs.toRo
  have hss : ∀ H' i k, H.n ≤ i → SubE H H' → SubE H (H'.set i k) := fun H' i k hn hs => SubE.set hwf hn hs k
  have hsk : ∀ H' i, H.n ≤ i → SubE H H' → SubE H (H'.kill i) := fun H' i hn hs => SubE.kill hwf hn hs
  have hon_ps := hat_ps.on
  have hb_ps : b_ps < H.n := (hwf b_ps k_ps hat_ps.blk).1
  have hne_ps : (b_ps = H.n) = False := eq_false (by omega)
  have hne1_ps : ∀ i, (b_ps = H.n + i) = False := fun i => eq_false (by omega)
  have hne2_ps : (b_ps = H.n + 1 + 1) = False ∧ (b_ps = H.n + 1 + 1 + 1) = False ∧ (b_ps = H.n + 1 + 1 + 1 + 1) = False ∧ (b_ps = H.n + 1 + 1 + 1 + 1 + 1) = False ∧ (b_ps = H.n + 1 + 1 + 1 + 1 + 1 + 1) = False ∧ (b_ps = H.n + 1 + 1 + 1 + 1 + 1 + 1 + 1) = False ∧ (b_ps = H.n + 1 + 1 + 1 + 1 + 1 + 1 + 1 + 1) = False ∧ (b_ps = H.n + 1 + 1 + 1 + 1 + 1 + 1 + 1 + 1 + 1) = False ∧ (b_ps = H.n + 1 + 1 + 1 + 1 + 1 + 1 + 1 + 1 + 1 + 1) = False ∧ (b_ps = H.n + 1 + 1 + 1 + 1 + 1 + 1 + 1 + 1 + 1 + 1 + 1) = False ∧ (b_ps = H.n + 1 + 1 + 1 + 1 + 1 + 1 + 1 + 1 + 1 + 1 + 1 + 1) = False := ⟨eq_false (by omega), eq_false (by omega), eq_false (by omega), eq_false (by omega), eq_false (by omega), eq_false (by omega), eq_false (by omega), eq_false (by omega), eq_false (by omega), eq_false (by omega), eq_false (by omega)⟩
  have hmx_ps : ps.length ≤ 9223372036854775807 := by have h1 := (hwf b_ps k_ps hat_ps.blk).2.2; have h2 := hat_ps.len; omega
  obtain ⟨hl, hl2, h⟩ := h
  simp (config := {contextual := true, implicitDefEqProofs := false, maxSteps := 2000000}) [-Int.not_le, -Int.not_lt, argsF, impl_copySightings_c, hat_ps.blk, hat_ps.esz, hat_ps.len, hon_ps, hne_ps, hne1_ps, hne2_ps.1, hne2_ps.2.1, hne2_ps.2.2.1, hne2_ps.2.2.2.1, hne2_ps.2.2.2.2.1, hne2_ps.2.2.2.2.2.1, hne2_ps.2.2.2.2.2.2.1, hne2_ps.2.2.2.2.2.2.2.1, hne2_ps.2.2.2.2.2.2.2.2.1, hne2_ps.2.2.2.2.2.2.2.2.2.1, hne2_ps.2.2.2.2.2.2.2.2.2.2, hsr, hsp, hst, hss, hsk]
  refine aloop_heap (X := AX × Nat) (fun x => [(3, .c (.sl (x.1.b) (0) (x.2))), (6, .c (.sl b_ps i_ps ps.length)), (7, .c (.int .i64 ps.length)), (8, .c (.int .i64 ((x.2 : Int))))]) (fun x => x.1.H) (fun x => x.1.Ok H H.n (ps.take x.2) ∧ x.2 ≤ ps.length) (fun x => ps.length - x.2) hE _
    (⟨H.push (siK [] []), H.n, []⟩, 0) ⟨⟨Sub.push hwf (.refl _) _, by simpa using siK_rows, by simp⟩, Nat.zero_le _⟩ (fun hw0 => .one (c := none) hwf (.refl _) ⟨rfl, rfl⟩ (by simp) (by simp [frOk, AV.okR, AV.ok1, AC.okR, AV.ren, AV.ren1, AC.ren, AFrame.get, pl1_old, *]; first | done | omega)) (fun x hx hwx => ?_)
  obtain ⟨x, j⟩ := x
  obtain ⟨hok, hj⟩ := hx
  simp only at hok hj
  have hnx := hok.sub.1.1
  have hbd := hok.rows.bnd hwx
  have hxb := hbd x.b (by simp)
  rcases Nat.lt_or_ge j ps.length with hlt | hge
  rotate_left
  · obtain rfl : j = ps.length := by omega
    simp (config := {contextual := true, implicitDefEqProofs := false, maxSteps := 2000000}) [-Int.not_le, -Int.not_lt, argsF, impl_copySightings_l0]
    have hr := hok.rows
    rw [List.take_length] at hr
    exact Out.whole hnx (by simp [frOk, AV.okR, AV.ok1, AC.okR, AV.ren, AV.ren1, AC.ren, AFrame.get, pl1_old, *]; first | done | omega) fun hw => Stop.go h x.H x.b x.cs hw hok.sub hr hok.ge

  have hj1 := idx_lt hlt
  have w1 : IntKind.i64.wrap ((j : Int) + 1) = (j : Int) + 1 := wrap_id (by omega) (by omega)
  have hat_ps : eSi.At x.H b_ps i_ps k_ps ps := hat_ps.sub hok.sub
  have hwf0 := hwf
  have hwf := hwx
  obtain ⟨ex_x, e_x, hd_x⟩ := hat_ps.get hlt
  obtain ⟨b_x, i_x, k_x, rfl, hat_x, htx_x⟩ := eSi_at hd_x
  have hb_x : b_x < x.H.n := (hwf b_x k_x hat_x.blk).1
  have hne_x : (b_x = x.H.n) = False := eq_false (by omega)
  have hne1_x : ∀ i, (b_x = x.H.n + i) = False := fun i => eq_false (by omega)
  have hne2_x : (b_x = x.H.n + 1 + 1) = False ∧ (b_x = x.H.n + 1 + 1 + 1) = False ∧ (b_x = x.H.n + 1 + 1 + 1 + 1) = False ∧ (b_x = x.H.n + 1 + 1 + 1 + 1 + 1) = False ∧ (b_x = x.H.n + 1 + 1 + 1 + 1 + 1 + 1) = False ∧ (b_x = x.H.n + 1 + 1 + 1 + 1 + 1 + 1 + 1) = False ∧ (b_x = x.H.n + 1 + 1 + 1 + 1 + 1 + 1 + 1 + 1) = False ∧ (b_x = x.H.n + 1 + 1 + 1 + 1 + 1 + 1 + 1 + 1 + 1) = False ∧ (b_x = x.H.n + 1 + 1 + 1 + 1 + 1 + 1 + 1 + 1 + 1 + 1) = False ∧ (b_x = x.H.n + 1 + 1 + 1 + 1 + 1 + 1 + 1 + 1 + 1 + 1 + 1) = False ∧ (b_x = x.H.n + 1 + 1 + 1 + 1 + 1 + 1 + 1 + 1 + 1 + 1 + 1 + 1) = False := ⟨eq_false (by omega), eq_false (by omega), eq_false (by omega), eq_false (by omega), eq_false (by omega), eq_false (by omega), eq_false (by omega), eq_false (by omega), eq_false (by omega), eq_false (by omega), eq_false (by omega)⟩
  have htr := hl2 _ (List.getElem_mem hlt)
  have hlt0 : (ps.take j).length = j := by rw [List.length_take]; omega
  have hrl := hok.rows.len
  rw [hlt0] at hrl
  have hrb := hok.rows.blkK
  have hb3 : (j + 1) * 56 ≤ 140737488355328 := by omega
  have hb5 : (j + 1) * 40 ≤ 140737488355328 := by omega
  have hb6 : (j + 1) * 48 ≤ 140737488355328 := by omega
  have hb4 : j + 1 ≤ 140737488355328 := by omega
  have hbp : b_ps < x.H.n := (hwx _ _ hat_ps.blk).1
  have qb : (x.b = x.H.n) = False := eq_false (by omega)
  have qb1 : (x.b = x.H.n + 1) = False := eq_false (by omega)
  have qb2 : (x.b = x.H.n + 1 + 1) = False := eq_false (by omega)
  simp (config := {contextual := true, implicitDefEqProofs := false, maxSteps := 2000000}) [-Int.not_le, -Int.not_lt, argsF, impl_copySightings_l0, hj1, hlt, w1, hat_ps.blk, hat_ps.esz, hat_ps.len, e_x, htx_x, hat_x.blk, hat_x.esz, hat_x.len, hat_x.els, hne_x, hne1_x, hne2_x.1, hne2_x.2.1, hne2_x.2.2.1, hne2_x.2.2.2.1, hne2_x.2.2.2.2.1, hne2_x.2.2.2.2.2.1, hne2_x.2.2.2.2.2.2.1, hne2_x.2.2.2.2.2.2.2.1, hne2_x.2.2.2.2.2.2.2.2.1, hne2_x.2.2.2.2.2.2.2.2.2.1, hne2_x.2.2.2.2.2.2.2.2.2.2, htr, hrb, hrl, hlt0, qb, qb1, qb2, hb3, hb4, hb5, hb6]
  have e := siK_add (cs := x.cs) (ps := ps.take j) (p := ps[j]) (c := x.H.n + 1) hok.rows.len rfl
  rw [hlt0] at e
  simp only [siCells] at e
  rw [e]
  exact ⟨fun hw => ⟨(⟨_, x.H.n + 1 + 1 + 1, x.cs ++ [x.H.n + 1]⟩, j + 1), ⟨by simp only; rw [List.take_succ_eq_append_getElem hlt]; exact hok.add hwf0 hnx hwf ps[j] _ _ _, hlt⟩, by simp only; omega, .since (by simp only [push_n, kill_n, set_n]; omega) hw (.refl _) (by simp [frOk, AV.okR, AV.ok1, AC.okR, AV.ren, AV.ren1, AC.ren, AFrame.get, pl1_old, *]; first | done | omega)⟩⟩

end Go.Proofs.Ytnbjiigcldmgoaa
