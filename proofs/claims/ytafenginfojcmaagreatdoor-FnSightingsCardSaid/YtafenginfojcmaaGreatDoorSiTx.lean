/- A sighting added. A sighting added: the function, of both builds. Numbers as texts. The text of a sighting. -/
import Derived.Test.YtafenginfojcmaaGreatDoorSiY
import Derived.Test.YtafenginfojcmaaGreatDoorSiC2
import Derived.Test.YtafenginfojcmaaGreatDoorBas
import Derived.Test.YtafenginfojcmaaGreatDoorSiC
import Derived.Test.YtafenginfojcmaaGreatDoorShelf
import Derived.Sort.Grow
import Derived.Test.YtafenginfojcmaaGreatDoorSiU
set_option maxRecDepth 8000
set_option linter.unusedSimpArgs false
set_option linter.unusedVariables false
namespace Go.Proofs.YtafenginfojcmaaGreatDoor
open Go Go.RowKit

def q_own : Con := fun args H K => match args with
  | [ps_v] => eI.rd H (fun ps => ps.length ≤ 1048576 ∧ K (.c (.sl (H.n) (0) (ps.length))) (H.push (rowK eI 3 ps))) ps_v
  | _ => False
@[simp ↓] theorem q_own_eq (ps_v : AV) (H : AHeap) (K : AV → AHeap → Prop) : q_own [ps_v] H K = (eI.rd H (fun ps => ps.length ≤ 1048576 ∧ K (.c (.sl (H.n) (0) (ps.length))) (H.push (rowK eI 3 ps))) ps_v) := rfl

theorem slices_Clone___int_int_s : Sound Tryz.prog 53 q_own := by
  intro args H K h
  unfold q_own at h
  split at h
  rotate_left
  all_goals first | exact False.elim h | skip
  rename_i ps_v
  have h1 := Enc.rd_at h
  clear h
  obtain ⟨b_ps, i_ps, k_ps, ps, rfl, hat_ps, h⟩ := h1
  have hE := soundE_nil (P := Tryz.prog)
  refine acalls_fn slices_Clone___int_int__k hE ⟨by simp, fun hwf => ?_⟩
  have hb_ps : b_ps < H.n := (hwf b_ps k_ps hat_ps.blk).1
  have hne_ps : (b_ps = H.n) = False := eq_false (by omega)
  have hne1_ps : ∀ i, (b_ps = H.n + i) = False := fun i => eq_false (by omega)
  have hne2_ps := ne2_of (a := b_ps) (b := H.n) (by omega)
  have hmx_ps : ps.length ≤ 9223372036854775807 := by have h1 := (hwf b_ps k_ps hat_ps.blk).2.2; have h2 := hat_ps.len; omega

  obtain ⟨hl, h⟩ := h
  have hl1 : ps.length * 8 ≤ 140737488355328 := by omega
  have hl2 : ps.length ≤ 140737488355328 := by omega
  simp (config := {contextual := true, implicitDefEqProofs := false, maxSteps := 60000}) [-Int.not_le, -Int.not_lt, argsF, slices_Clone___int_int__c, hat_ps.blk, hat_ps.esz, hat_ps.len, hat_ps.els, hne_ps, hne1_ps, hne2_ps, hl1, hl2]
  refine ⟨?_, fun h0 => ?_⟩
  · first | exact (.one (c := none) hwf (by (repeat first | exact Sub.refl _ | refine Sub.push hwf ?_ _ | refine Sub.set hwf ?_ (by first | exact Nat.le_refl _ | omega | (simp only [push_n, set_n, kill_n]; omega)) _ | refine Sub.kill hwf ?_ (by first | exact Nat.le_refl _ | omega | (simp only [push_n, set_n, kill_n]; omega)))) ⟨rfl, rfl⟩ (plain_map (fun _ => rfl) _) (by simp [frOk, AV.okR, AV.ok1, AC.okR, AV.ren, AV.ren1, AC.ren, AFrame.get, pl1_old, *]; first | done | rfl | omega) h) | exact (.one (c := some (H.n)) hwf (by (repeat first | exact Sub.refl _ | refine Sub.push hwf ?_ _ | refine Sub.set hwf ?_ (by first | exact Nat.le_refl _ | omega | (simp only [push_n, set_n, kill_n]; omega)) _ | refine Sub.kill hwf ?_ (by first | exact Nat.le_refl _ | omega | (simp only [push_n, set_n, kill_n]; omega)))) ⟨by omega, by simp [push_b, set_b, kill_b, rowK]; done⟩ (plain_map (fun _ => rfl) _) (by simp [frOk, AV.okR, AV.ok1, AC.okR, AV.ren, AV.ren1, AC.ren, AFrame.get, pl1_old, *]; first | done | rfl | omega) h) | exact (.one (c := some (H.n + 1)) hwf (by (repeat first | exact Sub.refl _ | refine Sub.push hwf ?_ _ | refine Sub.set hwf ?_ (by first | exact Nat.le_refl _ | omega | (simp only [push_n, set_n, kill_n]; omega)) _ | refine Sub.kill hwf ?_ (by first | exact Nat.le_refl _ | omega | (simp only [push_n, set_n, kill_n]; omega)))) ⟨by omega, by simp [push_b, set_b, kill_b, rowK]; done⟩ (plain_map (fun _ => rfl) _) (by simp [frOk, AV.okR, AV.ok1, AC.okR, AV.ren, AV.ren1, AC.ren, AFrame.get, pl1_old, *]; first | done | rfl | omega) h) | exact (.one (c := some (H.n + 2)) hwf (by (repeat first | exact Sub.refl _ | refine Sub.push hwf ?_ _ | refine Sub.set hwf ?_ (by first | exact Nat.le_refl _ | omega | (simp only [push_n, set_n, kill_n]; omega)) _ | refine Sub.kill hwf ?_ (by first | exact Nat.le_refl _ | omega | (simp only [push_n, set_n, kill_n]; omega)))) ⟨by omega, by simp [push_b, set_b, kill_b, rowK]; done⟩ (plain_map (fun _ => rfl) _) (by simp [frOk, AV.okR, AV.ok1, AC.okR, AV.ren, AV.ren1, AC.ren, AFrame.get, pl1_old, *]; first | done | rfl | omega) h) | exact (.one (c := some (H.n + 3)) hwf (by (repeat first | exact Sub.refl _ | refine Sub.push hwf ?_ _ | refine Sub.set hwf ?_ (by first | exact Nat.le_refl _ | omega | (simp only [push_n, set_n, kill_n]; omega)) _ | refine Sub.kill hwf ?_ (by first | exact Nat.le_refl _ | omega | (simp only [push_n, set_n, kill_n]; omega)))) ⟨by omega, by simp [push_b, set_b, kill_b, rowK]; done⟩ (plain_map (fun _ => rfl) _) (by simp [frOk, AV.okR, AV.ok1, AC.okR, AV.ren, AV.ren1, AC.ren, AFrame.get, pl1_old, *]; first | done | rfl | omega) h) | exact (.one (c := some (H.n + 4)) hwf (by (repeat first | exact Sub.refl _ | refine Sub.push hwf ?_ _ | refine Sub.set hwf ?_ (by first | exact Nat.le_refl _ | omega | (simp only [push_n, set_n, kill_n]; omega)) _ | refine Sub.kill hwf ?_ (by first | exact Nat.le_refl _ | omega | (simp only [push_n, set_n, kill_n]; omega)))) ⟨by omega, by simp [push_b, set_b, kill_b, rowK]; done⟩ (plain_map (fun _ => rfl) _) (by simp [frOk, AV.okR, AV.ok1, AC.okR, AV.ren, AV.ren1, AC.ren, AFrame.get, pl1_old, *]; first | done | rfl | omega) h)
  · have e := List.eq_nil_of_length_eq_zero (l := ps) (by simpa using h0)
    subst e
    first | exact (.one (c := none) hwf (by (repeat first | exact Sub.refl _ | refine Sub.push hwf ?_ _ | refine Sub.set hwf ?_ (by first | exact Nat.le_refl _ | omega | (simp only [push_n, set_n, kill_n]; omega)) _ | refine Sub.kill hwf ?_ (by first | exact Nat.le_refl _ | omega | (simp only [push_n, set_n, kill_n]; omega)))) ⟨rfl, rfl⟩ (plain_map (fun _ => rfl) _) (by simp [frOk, AV.okR, AV.ok1, AC.okR, AV.ren, AV.ren1, AC.ren, AFrame.get, pl1_old, *]; first | done | rfl | omega) h) | exact (.one (c := some (H.n)) hwf (by (repeat first | exact Sub.refl _ | refine Sub.push hwf ?_ _ | refine Sub.set hwf ?_ (by first | exact Nat.le_refl _ | omega | (simp only [push_n, set_n, kill_n]; omega)) _ | refine Sub.kill hwf ?_ (by first | exact Nat.le_refl _ | omega | (simp only [push_n, set_n, kill_n]; omega)))) ⟨by omega, by simp [push_b, set_b, kill_b, rowK]; done⟩ (plain_map (fun _ => rfl) _) (by simp [frOk, AV.okR, AV.ok1, AC.okR, AV.ren, AV.ren1, AC.ren, AFrame.get, pl1_old, *]; first | done | rfl | omega) h) | exact (.one (c := some (H.n + 1)) hwf (by (repeat first | exact Sub.refl _ | refine Sub.push hwf ?_ _ | refine Sub.set hwf ?_ (by first | exact Nat.le_refl _ | omega | (simp only [push_n, set_n, kill_n]; omega)) _ | refine Sub.kill hwf ?_ (by first | exact Nat.le_refl _ | omega | (simp only [push_n, set_n, kill_n]; omega)))) ⟨by omega, by simp [push_b, set_b, kill_b, rowK]; done⟩ (plain_map (fun _ => rfl) _) (by simp [frOk, AV.okR, AV.ok1, AC.okR, AV.ren, AV.ren1, AC.ren, AFrame.get, pl1_old, *]; first | done | rfl | omega) h) | exact (.one (c := some (H.n + 2)) hwf (by (repeat first | exact Sub.refl _ | refine Sub.push hwf ?_ _ | refine Sub.set hwf ?_ (by first | exact Nat.le_refl _ | omega | (simp only [push_n, set_n, kill_n]; omega)) _ | refine Sub.kill hwf ?_ (by first | exact Nat.le_refl _ | omega | (simp only [push_n, set_n, kill_n]; omega)))) ⟨by omega, by simp [push_b, set_b, kill_b, rowK]; done⟩ (plain_map (fun _ => rfl) _) (by simp [frOk, AV.okR, AV.ok1, AC.okR, AV.ren, AV.ren1, AC.ren, AFrame.get, pl1_old, *]; first | done | rfl | omega) h) | exact (.one (c := some (H.n + 3)) hwf (by (repeat first | exact Sub.refl _ | refine Sub.push hwf ?_ _ | refine Sub.set hwf ?_ (by first | exact Nat.le_refl _ | omega | (simp only [push_n, set_n, kill_n]; omega)) _ | refine Sub.kill hwf ?_ (by first | exact Nat.le_refl _ | omega | (simp only [push_n, set_n, kill_n]; omega)))) ⟨by omega, by simp [push_b, set_b, kill_b, rowK]; done⟩ (plain_map (fun _ => rfl) _) (by simp [frOk, AV.okR, AV.ok1, AC.okR, AV.ren, AV.ren1, AC.ren, AFrame.get, pl1_old, *]; first | done | rfl | omega) h) | exact (.one (c := some (H.n + 4)) hwf (by (repeat first | exact Sub.refl _ | refine Sub.push hwf ?_ _ | refine Sub.set hwf ?_ (by first | exact Nat.le_refl _ | omega | (simp only [push_n, set_n, kill_n]; omega)) _ | refine Sub.kill hwf ?_ (by first | exact Nat.le_refl _ | omega | (simp only [push_n, set_n, kill_n]; omega)))) ⟨by omega, by simp [push_b, set_b, kill_b, rowK]; done⟩ (plain_map (fun _ => rfl) _) (by simp [frOk, AV.okR, AV.ok1, AC.okR, AV.ren, AV.ren1, AC.ren, AFrame.get, pl1_old, *]; first | done | rfl | omega) h)

theorem spec_l1Own_s : Sound Tryz.prog 54 q_own := by
  intro args H K h
  unfold q_own at h
  split at h
  rotate_left
  all_goals first | exact False.elim h | skip
  rename_i ps_v
  have h1 := Enc.rd_at h
  clear h
  obtain ⟨b_ps, i_ps, k_ps, ps, rfl, hat_ps, h⟩ := h1
  have hE := soundE_nil (P := Tryz.prog)
  refine acalls_fn spec_l1Own_k hE ⟨by simp, fun hwf => ?_⟩
  have hb_ps : b_ps < H.n := (hwf b_ps k_ps hat_ps.blk).1
  have hne_ps : (b_ps = H.n) = False := eq_false (by omega)
  have hne1_ps : ∀ i, (b_ps = H.n + i) = False := fun i => eq_false (by omega)
  have hne2_ps := ne2_of (a := b_ps) (b := H.n) (by omega)
  have hmx_ps : ps.length ≤ 9223372036854775807 := by have h1 := (hwf b_ps k_ps hat_ps.blk).2.2; have h2 := hat_ps.len; omega

  obtain ⟨hl, h⟩ := h
  have hl1 : ps.length * 8 ≤ 140737488355328 := by omega
  have hl2 : ps.length ≤ 140737488355328 := by omega
  simp (config := {contextual := true, implicitDefEqProofs := false, maxSteps := 60000}) [-Int.not_le, -Int.not_lt, argsF, spec_l1Own_c, hat_ps.blk, hat_ps.esz, hat_ps.len, hat_ps.els, hne_ps, hne1_ps, hne2_ps, hl1, hl2]
  first | exact (.one (c := none) hwf (by (repeat first | exact Sub.refl _ | refine Sub.push hwf ?_ _ | refine Sub.set hwf ?_ (by first | exact Nat.le_refl _ | omega | (simp only [push_n, set_n, kill_n]; omega)) _ | refine Sub.kill hwf ?_ (by first | exact Nat.le_refl _ | omega | (simp only [push_n, set_n, kill_n]; omega)))) ⟨rfl, rfl⟩ (plain_map (fun _ => rfl) _) (by simp [frOk, AV.okR, AV.ok1, AC.okR, AV.ren, AV.ren1, AC.ren, AFrame.get, pl1_old, *]; first | done | rfl | omega) h) | exact (.one (c := some (H.n)) hwf (by (repeat first | exact Sub.refl _ | refine Sub.push hwf ?_ _ | refine Sub.set hwf ?_ (by first | exact Nat.le_refl _ | omega | (simp only [push_n, set_n, kill_n]; omega)) _ | refine Sub.kill hwf ?_ (by first | exact Nat.le_refl _ | omega | (simp only [push_n, set_n, kill_n]; omega)))) ⟨by omega, by simp [push_b, set_b, kill_b, rowK]; done⟩ (plain_map (fun _ => rfl) _) (by simp [frOk, AV.okR, AV.ok1, AC.okR, AV.ren, AV.ren1, AC.ren, AFrame.get, pl1_old, *]; first | done | rfl | omega) h) | exact (.one (c := some (H.n + 1)) hwf (by (repeat first | exact Sub.refl _ | refine Sub.push hwf ?_ _ | refine Sub.set hwf ?_ (by first | exact Nat.le_refl _ | omega | (simp only [push_n, set_n, kill_n]; omega)) _ | refine Sub.kill hwf ?_ (by first | exact Nat.le_refl _ | omega | (simp only [push_n, set_n, kill_n]; omega)))) ⟨by omega, by simp [push_b, set_b, kill_b, rowK]; done⟩ (plain_map (fun _ => rfl) _) (by simp [frOk, AV.okR, AV.ok1, AC.okR, AV.ren, AV.ren1, AC.ren, AFrame.get, pl1_old, *]; first | done | rfl | omega) h) | exact (.one (c := some (H.n + 2)) hwf (by (repeat first | exact Sub.refl _ | refine Sub.push hwf ?_ _ | refine Sub.set hwf ?_ (by first | exact Nat.le_refl _ | omega | (simp only [push_n, set_n, kill_n]; omega)) _ | refine Sub.kill hwf ?_ (by first | exact Nat.le_refl _ | omega | (simp only [push_n, set_n, kill_n]; omega)))) ⟨by omega, by simp [push_b, set_b, kill_b, rowK]; done⟩ (plain_map (fun _ => rfl) _) (by simp [frOk, AV.okR, AV.ok1, AC.okR, AV.ren, AV.ren1, AC.ren, AFrame.get, pl1_old, *]; first | done | rfl | omega) h) | exact (.one (c := some (H.n + 3)) hwf (by (repeat first | exact Sub.refl _ | refine Sub.push hwf ?_ _ | refine Sub.set hwf ?_ (by first | exact Nat.le_refl _ | omega | (simp only [push_n, set_n, kill_n]; omega)) _ | refine Sub.kill hwf ?_ (by first | exact Nat.le_refl _ | omega | (simp only [push_n, set_n, kill_n]; omega)))) ⟨by omega, by simp [push_b, set_b, kill_b, rowK]; done⟩ (plain_map (fun _ => rfl) _) (by simp [frOk, AV.okR, AV.ok1, AC.okR, AV.ren, AV.ren1, AC.ren, AFrame.get, pl1_old, *]; first | done | rfl | omega) h) | exact (.one (c := some (H.n + 4)) hwf (by (repeat first | exact Sub.refl _ | refine Sub.push hwf ?_ _ | refine Sub.set hwf ?_ (by first | exact Nat.le_refl _ | omega | (simp only [push_n, set_n, kill_n]; omega)) _ | refine Sub.kill hwf ?_ (by first | exact Nat.le_refl _ | omega | (simp only [push_n, set_n, kill_n]; omega)))) ⟨by omega, by simp [push_b, set_b, kill_b, rowK]; done⟩ (plain_map (fun _ => rfl) _) (by simp [frOk, AV.okR, AV.ok1, AC.okR, AV.ren, AV.ren1, AC.ren, AFrame.get, pl1_old, *]; first | done | rfl | omega) h)

set_option maxHeartbeats 4000000
/-- one more sighting in a new block -/
theorem SiRows.addG {H H' : AHeap} {b b' c : Nat} {cs : List Nat} {ps : List Si} {p : Si} (h : SiRows H b cs ps) (hold : ∀ i ∈ cs, H'.b i = H.b i) (hblk : H'.b b' = some ⟨32, 4, false, false, List.zipWith siCells (cs ++ [c]) (ps ++ [p])⟩)
    (hc : H'.b c = some (rowK eI 3 p.traits)) (hn : c ∉ cs) (hb' : b' ∉ cs ++ [c]) : SiRows H' b' (cs ++ [c]) (ps ++ [p]) := by
  refine ⟨by simp [h.len], List.nodup_append.2 ⟨h.nd, by simp, fun x hx y hy e => by rw [List.mem_singleton.1 hy] at e; exact hn (e ▸ hx)⟩, hb', hblk, fun j c' q hj hq => ?_⟩
  rcases Nat.lt_or_ge j cs.length with h1 | h1
  · rw [List.getElem?_append_left h1] at hj
    rw [List.getElem?_append_left (by have := h.len; omega)] at hq
    rw [hold c' (List.mem_of_getElem? hj)]
    exact h.row j c' q hj hq
  · have hj2 : j = cs.length := by have := (List.getElem?_eq_some_iff.1 hj).1; simp at this; omega
    subst hj2
    rw [List.getElem?_append_right (Nat.le_refl _)] at hj
    rw [List.getElem?_append_right (by have := h.len; omega)] at hq
    simp [h.len] at hj hq
    subst hj hq
    exact hc
def siK (cs : List Nat) (ps : List Si) : ABlk := ⟨32, 4, false, false, List.zipWith siCells cs ps⟩
@[simp] theorem siK_els (cs : List Nat) (ps : List Si) : (siK cs ps).els = List.zipWith siCells cs ps := rfl
@[simp] theorem siK_esz (cs : List Nat) (ps : List Si) : (siK cs ps).esz = 4 := rfl
@[simp] theorem siK_ro (cs : List Nat) (ps : List Si) : (siK cs ps).ro = false := rfl
@[simp] theorem siK_fz (cs : List Nat) (ps : List Si) : (siK cs ps).fz = false := rfl
@[simp] theorem siK_ty (cs : List Nat) (ps : List Si) : (siK cs ps).ty = 32 := rfl
theorem siK_add {cs : List Nat} {ps : List Si} {p : Si} {c : Nat} {e : List AC} (hl : cs.length = ps.length) (he : e = siCells c p) : (⟨32, 4, false, false, List.take ps.length (List.zipWith siCells cs ps) ++ [e]⟩ : ABlk) = siK (cs ++ [c]) (ps ++ [p]) := by
  subst he
  rw [List.take_of_length_le (by simp [hl])]
  simp [siK, List.zipWith_append hl]
theorem siK_rows {H : AHeap} : SiRows (H.push (siK [] [])) H.n [] [] := ⟨rfl, by simp, by simp, by simp [push_b, siK], fun j c g hc => by simp at hc⟩
theorem SiRows.blkK {H : AHeap} {b : Nat} {cs : List Nat} {ps : List Si} (h : SiRows H b cs ps) : H.b b = some (siK cs ps) := h.blk
theorem SiRows.bnd {H : AHeap} {b : Nat} {cs : List Nat} {rows : List Si} (h : SiRows H b cs rows) (hw : H.WF) : ∀ c ∈ b :: cs, c < H.n := fun c hc => by
  rcases List.mem_cons.1 hc with rfl | hc
  · exact (hw _ _ h.blk).1
  · obtain ⟨j, hj⟩ := List.getElem?_of_mem hc
    have hjl := (List.getElem?_eq_some_iff.1 hj).1
    have hjr : j < rows.length := by have := h.len; omega
    exact (hw _ _ (h.row j c rows[j] hj (List.getElem?_eq_getElem hjr))).1
theorem SiRows.out {H H' : AHeap} {b lo hi : Nat} {cs : List Nat} {rows : List Si} (h : SiRows H b cs rows) (hs : SubOut lo hi H H') (hb : ∀ c ∈ b :: cs, c < lo ∨ hi ≤ c) : SiRows H' b cs rows :=
  ⟨h.len, h.nd, h.nb, (hs.out _ (hb _ (by simp))).trans h.blk, fun j c p hc hp => (hs.out _ (hb _ (by simp [List.mem_of_getElem? hc]))).trans (h.row j c p hc hp)⟩
theorem SiRows.dec {H : AHeap} {b : Nat} {cs : List Nat} {ps : List Si} (h : SiRows H b cs ps) (htx : ∀ p ∈ ps, p.town.length ≤ 9223372036854775807) : ∀ H', SubE H H' → eSi.decL H' (List.zipWith siCells cs ps) = some ps := fun _ hs =>
  eSi.decL_mono hs (eSi.decL_zip (H := H) siCells cs ps h.len fun j c p hc hp => eSi_cells (h.row j c p hc hp) (htx p (List.mem_of_getElem? hp)))
theorem SiRows.add1 {H : AHeap} {b : Nat} {cs : List Nat} {ps : List Si} (h : SiRows H b cs ps) (hw : H.WF) (p : Si) (K : ABlk) :
    SiRows ((((H.push (rowK eI 3 p.traits)).push K).kill b).push (siK (cs ++ [H.n]) (ps ++ [p]))) (H.n + 1 + 1) (cs ++ [H.n]) (ps ++ [p]) := by
  have hbd := h.bnd hw
  have hb0 := hbd b (by simp)
  refine h.addG (fun i hi => ?_) (by simp [push_b, siK]) ?_ (fun hi => ?_) (fun hi => ?_)
  · have h1 := hbd i (by simp [hi])
    have h2 : i ≠ b := fun e => h.nb (e ▸ hi)
    rw [push_b, if_neg (by simp only [kill_n, push_n]; omega), kill_b, if_neg h2, push_b, if_neg (by simp only [push_n]; omega), push_b, if_neg (by omega)]
  · rw [push_b, if_neg (by simp only [kill_n, push_n]; omega), kill_b, if_neg (by omega), push_b, if_neg (by simp only [push_n]; omega), push_b, if_pos rfl]
  · have := hbd _ (List.mem_cons_of_mem _ hi); omega
  · rcases List.mem_append.1 hi with hi | hi
    · have := hbd _ (List.mem_cons_of_mem _ hi); omega
    · have := List.mem_singleton.1 hi; omega
def adId (ps : List Si) : Int := match ps.getLast? with
  | none => 1
  | some p => IntKind.i64.wrap (p.id + 1)
def adOut (ps : List Si) (y : Int) (t : List UInt8) (tr : List Int) : List Si := ps ++ [⟨adId ps, y, t, tr⟩]
def adRes (ps : List Si) (y : Int) (t : List UInt8) (tr : List Int) : List Si × Int × Bool := if areSi ps = true then if areSi (adOut ps y t tr) = true then (adOut ps y t tr, adId ps, true) else ([], 0, false) else ([], 0, false)
structure AX where
  H : AHeap
  b : Nat
  cs : List Nat
structure AX.Ok (x : AX) (H1 : AHeap) (n0 : Nat) (done : List Si) : Prop where
  sub : Sub H1 x.H
  rows : SiRows x.H x.b x.cs done
  ge : ∀ c ∈ x.b :: x.cs, n0 ≤ c
theorem AX.Ok.add {x : AX} {H1 : AHeap} {n0 : Nat} {done : List Si} (hok : x.Ok H1 n0 done) (hwf0 : H1.WF) (hnx : H1.n ≤ x.H.n) (hw : x.H.WF) (p : Si) (K1 K2 K3 : ABlk) (hn : H1.n = n0 := by rfl) :
    (⟨(((((x.H.push K1).push (rowK eI 3 p.traits)).set x.H.n K2).push K3).kill x.b).push (siK (x.cs ++ [x.H.n + 1]) (done ++ [p])), x.H.n + 1 + 1 + 1, x.cs ++ [x.H.n + 1]⟩ : AX).Ok H1 n0 (done ++ [p]) := by
  have hbd := hok.rows.bnd hw
  refine ⟨Sub.push hwf0 (Sub.kill hwf0 (Sub.push hwf0 (Sub.set hwf0 (Sub.push hwf0 (Sub.push hwf0 hok.sub _) _) hnx _) _) (hn ▸ hok.ge _ (by simp))) _, hok.rows.addG (fun i hi => ?_) ?_ ?_ (fun hi => ?_) (fun hi => ?_), fun c hc => ?_⟩
  · have h1 := hbd i (by simp [hi])
    have h2 : i ≠ x.b := fun e => hok.rows.nb (e ▸ hi)
    show ((((((x.H.push K1).push (rowK eI 3 p.traits)).set x.H.n K2).push K3).kill x.b).push _).b i = _
    rw [push_b, if_neg (by simp only [kill_n, push_n, set_n]; omega), kill_b, if_neg h2, push_b, if_neg (by simp only [push_n, set_n]; omega), set_b, if_neg (by omega), push_b, if_neg (by simp only [push_n]; omega), push_b, if_neg (by omega)]
  · simp [push_b, siK]
  · show ((((((x.H.push K1).push (rowK eI 3 p.traits)).set x.H.n K2).push K3).kill x.b).push _).b (x.H.n + 1) = _
    have hxb := hbd x.b (by simp)
    rw [push_b, if_neg (by simp only [kill_n, push_n, set_n]; omega), kill_b, if_neg (by omega), push_b, if_neg (by simp only [push_n, set_n]; omega), set_b, if_neg (by omega), push_b, if_pos (by simp only [push_n])]
  · have := hbd _ (List.mem_cons_of_mem _ hi); omega
  · rcases List.mem_append.1 hi with hi | hi
    · have := hbd _ (List.mem_cons_of_mem _ hi); simp only at this; omega
    · have := List.mem_singleton.1 hi; simp only at this; omega
  · rcases List.mem_cons.1 hc with rfl | hc
    · simp only; omega
    · rcases List.mem_append.1 hc with hc | hc
      · exact hok.ge c (by simp [hc])
      · rw [List.mem_singleton.1 hc]; omega

def q_cp : Con := fun args H K => match args with
  | [ps_v] => eSi.rd H (fun ps => ps.length ≤ 1048576 ∧ (∀ p ∈ ps, p.traits.length ≤ 1048576) ∧ Stop (∀ H' b cs, H'.WF → Sub H H' → SiRows H' b cs ps → (∀ c ∈ b :: cs, H.n ≤ c) → K (.c (.sl (b) (0) (ps.length))) H') ()) ps_v
  | _ => False
@[simp ↓] theorem q_cp_eq (ps_v : AV) (H : AHeap) (K : AV → AHeap → Prop) : q_cp [ps_v] H K = (eSi.rd H (fun ps => ps.length ≤ 1048576 ∧ (∀ p ∈ ps, p.traits.length ≤ 1048576) ∧ Stop (∀ H' b cs, H'.WF → Sub H H' → SiRows H' b cs ps → (∀ c ∈ b :: cs, H.n ≤ c) → K (.c (.sl (b) (0) (ps.length))) H') ()) ps_v) := rfl

theorem impl_copySightings_s : Sound Tryz.prog 52 q_cp := by
  intro args H K h
  unfold q_cp at h
  split at h
  rotate_left
  all_goals first | exact False.elim h | skip
  rename_i ps_v
  have h1 := EncH.rd_at h
  clear h
  obtain ⟨b_ps, i_ps, k_ps, ps, rfl, hat_ps, h⟩ := h1
  have hE := soundE_cons slices_Clone___int_int_s (soundE_nil (P := Tryz.prog))
  refine acalls_fn impl_copySightings_k hE ⟨by simp, fun hwf => ?_⟩
  obtain ⟨hsr, hsp, hst, hss, hsk⟩ := hs_of hwf
  have hon_ps := hat_ps.on
  have hb_ps : b_ps < H.n := (hwf b_ps k_ps hat_ps.blk).1
  have hne_ps : (b_ps = H.n) = False := eq_false (by omega)
  have hne1_ps : ∀ i, (b_ps = H.n + i) = False := fun i => eq_false (by omega)
  have hne2_ps := ne2_of (a := b_ps) (b := H.n) (by omega)
  have hmx_ps : ps.length ≤ 9223372036854775807 := by have h1 := (hwf b_ps k_ps hat_ps.blk).2.2; have h2 := hat_ps.len; omega
  obtain ⟨hl, hl2, h⟩ := h
  simp (config := {contextual := true, implicitDefEqProofs := false, maxSteps := 2000000}) [-Int.not_le, -Int.not_lt, argsF, impl_copySightings_c, hat_ps.blk, hat_ps.esz, hat_ps.len, hon_ps, hne_ps, hne1_ps, hne2_ps, hsr, hsp, hst, hss, hsk]
  refine aloop_heap (X := AX × Nat) (fun x => [(3, .c (.sl (x.1.b) (0) (x.2))), (6, .c (.sl b_ps i_ps ps.length)), (7, .c (.int .i64 ps.length)), (8, .c (.int .i64 ((x.2 : Int))))]) (fun x => x.1.H) (fun x => x.1.Ok H H.n (ps.take x.2) ∧ x.2 ≤ ps.length) (fun x => ps.length - x.2) hE _
    (⟨H.push (siK [] []), H.n, []⟩, 0) ⟨⟨Sub.push hwf (.refl _) _, by simpa using siK_rows, by simp⟩, Nat.zero_le _⟩ (fun hw0 => .one (c := none) hwf (.refl _) ⟨rfl, rfl⟩ (by simp) (by simp [frOk, AV.okR, AV.ok1, AC.okR, AV.ren, AV.ren1, AC.ren, AFrame.get, pl1_old, *]; first | done | rfl | omega)) (fun x hx hwx => ?_)
  obtain ⟨x, j⟩ := x
  obtain ⟨hok, hj⟩ := hx
  simp only at hok hj
  have hnx := hok.sub.1.1
  have hbd := hok.rows.bnd hwx
  have hxb := hbd x.b (by simp)
  rcases Nat.lt_or_ge j ps.length with hlt | hge
  rotate_left
  · obtain rfl : j = ps.length := by omega
    simp (config := {contextual := true, implicitDefEqProofs := false, maxSteps := 2000000}) [-Int.not_le, -Int.not_lt, argsF, impl_copySightings_l0]
    have hr := hok.rows
    rw [List.take_length] at hr
    exact Out.whole hnx (by simp [frOk, AV.okR, AV.ok1, AC.okR, AV.ren, AV.ren1, AC.ren, AFrame.get, pl1_old, *]; first | done | rfl | omega) fun hw => Stop.go h x.H x.b x.cs hw hok.sub hr hok.ge

  have hj1 := idx_lt hlt
  have w1 : IntKind.i64.wrap ((j : Int) + 1) = (j : Int) + 1 := wrap_id (by omega) (by omega)
  have hat_ps : eSi.At x.H b_ps i_ps k_ps ps := hat_ps.sub hok.sub
  have hwf0 := hwf
  have hwf := hwx
  obtain ⟨ex_x, e_x, hd_x⟩ := hat_ps.get hlt
  obtain ⟨b_x, i_x, k_x, rfl, hat_x, htx_x⟩ := eSi_at hd_x
  have hb_x : b_x < x.H.n := (hwf b_x k_x hat_x.blk).1
  have hne_x : (b_x = x.H.n) = False := eq_false (by omega)
  have hne1_x : ∀ i, (b_x = x.H.n + i) = False := fun i => eq_false (by omega)
  have hne2_x := ne2_of (a := b_x) (b := x.H.n) (by omega)
  have htr := hl2 _ (List.getElem_mem hlt)
  have hlt0 : (ps.take j).length = j := by rw [List.length_take]; omega
  have hrl := hok.rows.len
  rw [hlt0] at hrl
  have hrb := hok.rows.blkK
  have hb3 : (j + 1) * 56 ≤ 140737488355328 := by omega
  have hb5 : (j + 1) * 40 ≤ 140737488355328 := by omega
  have hb6 : (j + 1) * 48 ≤ 140737488355328 := by omega
  have hb4 : j + 1 ≤ 140737488355328 := by omega
  have hbp : b_ps < x.H.n := (hwx _ _ hat_ps.blk).1
  have qb : (x.b = x.H.n) = False := eq_false (by omega)
  have qb1 : (x.b = x.H.n + 1) = False := eq_false (by omega)
  have qb2 : (x.b = x.H.n + 1 + 1) = False := eq_false (by omega)
  simp (config := {contextual := true, implicitDefEqProofs := false, maxSteps := 2000000}) [-Int.not_le, -Int.not_lt, argsF, impl_copySightings_l0, hj1, hlt, w1, hat_ps.blk, hat_ps.esz, hat_ps.len, e_x, htx_x, hat_x.blk, hat_x.esz, hat_x.len, hat_x.els, hne_x, hne1_x, hne2_x, htr, hrb, hrl, hlt0, qb, qb1, qb2, hb3, hb4, hb5, hb6]
  have e := siK_add (cs := x.cs) (ps := ps.take j) (p := ps[j]) (c := x.H.n + 1) hok.rows.len rfl
  rw [hlt0] at e
  simp only [siCells] at e
  rw [e]
  exact ⟨fun hw => ⟨(⟨_, x.H.n + 1 + 1 + 1, x.cs ++ [x.H.n + 1]⟩, j + 1), ⟨by simp only; rw [List.take_succ_eq_append_getElem hlt]; exact hok.add hwf0 hnx hwf ps[j] _ _ _, hlt⟩, by simp only; omega, .since (by simp only [push_n, kill_n, set_n]; omega) hw (.refl _) (by simp [frOk, AV.okR, AV.ok1, AC.okR, AV.ren, AV.ren1, AC.ren, AFrame.get, pl1_old, *]; first | done | rfl | omega)⟩⟩

end Go.Proofs.YtafenginfojcmaaGreatDoor
set_option maxRecDepth 8000
set_option linter.unusedSimpArgs false
set_option linter.unusedVariables false
namespace Go.Proofs.YtafenginfojcmaaGreatDoor
open Go Go.RowKit

set_option maxHeartbeats 4000000

def q_ad : Con := fun args H K => match args with
  | [ps_v, .c (.int .i64 year), .c (.str town), traits_v] => eSi.rd H (fun ps => eI.rd H (fun traits => ps.length ≤ 1048576 ∧ (∀ p ∈ ps, p.traits.length ≤ 1048576 ∧ p.town.length ≤ 9223372036854775807) ∧ town.length ≤ 9223372036854775807 ∧ traits.length ≤ 1048576 ∧ Stop (∀ H' b cs, H'.WF → Sub H H' → SiRows H' b cs (adRes ps year town traits).1 → (∀ c ∈ b :: cs, H.n ≤ c) → K (.tup [.c (.sl (b) (0) ((adRes ps year town traits).1.length)), .c (.int .i64 ((adRes ps year town traits).2.1)), .c (.bool ((adRes ps year town traits).2.2))]) H') ()) traits_v) ps_v
  | _ => False
@[simp ↓] theorem q_ad_eq (ps_v : AV) (year : Int) (town : List UInt8) (traits_v : AV) (H : AHeap) (K : AV → AHeap → Prop) : q_ad [ps_v, .c (.int .i64 year), .c (.str town), traits_v] H K = (eSi.rd H (fun ps => eI.rd H (fun traits => ps.length ≤ 1048576 ∧ (∀ p ∈ ps, p.traits.length ≤ 1048576 ∧ p.town.length ≤ 9223372036854775807) ∧ town.length ≤ 9223372036854775807 ∧ traits.length ≤ 1048576 ∧ Stop (∀ H' b cs, H'.WF → Sub H H' → SiRows H' b cs (adRes ps year town traits).1 → (∀ c ∈ b :: cs, H.n ≤ c) → K (.tup [.c (.sl (b) (0) ((adRes ps year town traits).1.length)), .c (.int .i64 ((adRes ps year town traits).2.1)), .c (.bool ((adRes ps year town traits).2.2))]) H') ()) traits_v) ps_v) := rfl

theorem impl_AddSighting_s : Sound Tryz.prog 21 q_ad := by
  intro args H K h
  unfold q_ad at h
  split at h
  rotate_left
  all_goals first | exact False.elim h | skip
  rename_i ps_v year town traits_v
  have h1 := EncH.rd_at h
  clear h
  obtain ⟨b_ps, i_ps, k_ps, ps, rfl, hat_ps, h⟩ := h1
  have h1 := Enc.rd_at h
  clear h
  obtain ⟨b_traits, i_traits, k_traits, traits, rfl, hat_traits, h⟩ := h1
  have hE := soundE_cons impl_areSightings_s (soundE_cons impl_copySightings_s (soundE_cons slices_Clone___int_int_s (soundE_nil (P := Tryz.prog))))
  refine acalls_fn impl_AddSighting_k hE ⟨by simp, fun hwf => ?_⟩
  obtain ⟨hsr, hsp, hst, hss, hsk⟩ := hs_of hwf
  have hon_ps := hat_ps.on
  have hb_traits : b_traits < H.n := (hwf b_traits k_traits hat_traits.blk).1
  have hne_traits : (b_traits = H.n) = False := eq_false (by omega)
  have hne1_traits : ∀ i, (b_traits = H.n + i) = False := fun i => eq_false (by omega)
  have hne2_traits := ne2_of (a := b_traits) (b := H.n) (by omega)
  have hmx_traits : traits.length ≤ 9223372036854775807 := by have h1 := (hwf b_traits k_traits hat_traits.blk).2.2; have h2 := hat_traits.len; omega
  have hb_ps : b_ps < H.n := (hwf b_ps k_ps hat_ps.blk).1
  have hne_ps : (b_ps = H.n) = False := eq_false (by omega)
  have hne1_ps : ∀ i, (b_ps = H.n + i) = False := fun i => eq_false (by omega)
  have hne2_ps := ne2_of (a := b_ps) (b := H.n) (by omega)
  have hmx_ps : ps.length ≤ 9223372036854775807 := by have h1 := (hwf b_ps k_ps hat_ps.blk).2.2; have h2 := hat_ps.len; omega
  obtain ⟨hl, hl2, htw, htr, h⟩ := h
  by_cases hv : areSi ps = true
  rotate_left
  · have hR : adRes ps year town traits = ([], 0, false) := by unfold adRes; rw [if_neg hv]
    rw [hR] at h
    simp (config := {contextual := true, implicitDefEqProofs := false, maxSteps := 2000000}) [-Int.not_le, -Int.not_lt, argsF, impl_AddSighting_c, hat_ps.blk, hat_ps.esz, hat_ps.len, hon_ps, hne_ps, hne1_ps, hne2_ps, hsr, hsp, hst, hss, hsk, hv]
    exact .one (k := siK [] []) (c := none) hwf (.refl _) ⟨rfl, rfl⟩ (by simp) (by simp [frOk, AV.okR, AV.ok1, AC.okR, AV.ren, AV.ren1, AC.ren, AFrame.get, pl1_old, *]; first | done | rfl | omega) (Stop.go h (H.push (siK [] [])) H.n [] (WF.push hwf (by simp) (by simp)) (Sub.push hwf (.refl _) _) siK_rows (by simp))
  have hpl := areSi_len hv
  have hl3 : ∀ p ∈ ps, p.traits.length ≤ 1048576 := fun p hp => (hl2 p hp).1
  have hb3 : (ps.length + 1) * 56 ≤ 140737488355328 := by omega
  have hb5 : (ps.length + 1) * 40 ≤ 140737488355328 := by omega
  have hb6 : (ps.length + 1) * 48 ≤ 140737488355328 := by omega
  have hb4 : ps.length + 1 ≤ 140737488355328 := by omega
  rcases Nat.eq_zero_or_pos ps.length with h0 | h0
  · have e0 := List.eq_nil_of_length_eq_zero h0
    subst e0
    have hi0 : i_ps ≤ k_ps.els.length := by simpa using hat_ps.len
    have hdn : ∀ H', eSi.decL H' [] = some [] := fun _ => rfl
    have hid : adId [] = 1 := rfl
    simp (config := {contextual := true, implicitDefEqProofs := false, maxSteps := 2000000}) [-Int.not_le, -Int.not_lt, argsF, impl_AddSighting_c, hat_ps.blk, hat_ps.esz, hat_ps.len, hon_ps, hne_ps, hne1_ps, hne2_ps, hsr, hsp, hst, hss, hsk, hv, hi0, hdn]
    refine Stop.mk fun H1 b1 cs1 hw1 hs1 hr1 hg1 => ?_
    have hbd := hr1.bnd hw1
    have hn1 := hs1.1.1
    have hb1 := hbd b1 (by simp)
    have hrl := hr1.len
    have hrb := hr1.blkK
    have hbt : b_traits < H1.n := by omega
    have htb : H1.b b_traits = some k_traits := hs1.1.2 _ _ hat_traits.blk
    have qb : (b1 = H1.n) = False := eq_false (by omega)
    have qb1 : (b1 = H1.n + 1) = False := eq_false (by omega)
    simp (config := {contextual := true, implicitDefEqProofs := false, maxSteps := 2000000}) [-Int.not_le, -Int.not_lt, argsF, hat_traits.blk, hat_traits.esz, hat_traits.len, hat_traits.els, hne_traits, hne1_traits, hne2_traits, htb, htr, hrl, hrb, qb, qb1, hb3, hb4, hb5, hb6]
    obtain rfl : cs1 = [] := List.eq_nil_of_length_eq_zero (by simpa using hrl)
    have hrN := hr1.add1 hw1 ⟨1, year, town, traits⟩ (siK ([] ++ [H1.n]) ([] ++ [⟨1, year, town, traits⟩]))
    have hdN := hrN.dec (fun p hp => by
      rcases List.mem_append.1 hp with hp | hp
      · exact (hl2 p hp).2
      · rw [List.mem_singleton.1 hp]; exact htw) _ (SubE.refl _)
    have hge : ∀ c ∈ (H1.n + 1 + 1) :: ([] ++ [H1.n]), H.n ≤ c := fun c hc => by
      rcases List.mem_cons.1 hc with rfl | hc
      · omega
      · rcases List.mem_append.1 hc with hc | hc
        · exact hg1 c (List.mem_cons_of_mem _ hc)
        · rw [List.mem_singleton.1 hc]; omega
    have hsN := fun K1 K2 => Sub.push hwf (Sub.kill hwf (Sub.push hwf (Sub.push hwf hs1 (rowK eI 3 traits)) K1) (hg1 b1 (by simp))) K2
    have hE : (⟨32, 4, false, false, [[AC.int .i64 1, AC.int .i64 year, AC.str town, AC.sl H1.n 0 traits.length]]⟩ : ABlk) = siK ([] ++ [H1.n]) ([] ++ [⟨1, year, town, traits⟩]) := rfl
    have hE2 : ([[AC.int .i64 1, AC.int .i64 year, AC.str town, AC.sl H1.n 0 traits.length]] : List (List AC)) = List.zipWith siCells ([] ++ [H1.n]) ([] ++ [⟨1, year, town, traits⟩]) := rfl
    rw [hE, hE2]
    simp only [hdN, onv_some]
    refine ite_i (fun hva => ?_) (fun hva => ?_)
    · have hR : adRes [] year town traits = ([] ++ [⟨1, year, town, traits⟩], 1, true) := by unfold adRes adOut; rw [hid, if_pos hv, if_pos hva]
      rw [hR] at h
      have hlen : (([] : List Si) ++ [(⟨1, year, town, traits⟩ : Si)]).length = 1 := by simp
      refine Out.whole (by simp only [push_n, kill_n]; omega) (by simp [frOk, AV.okR, AV.ok1, AC.okR, AV.ren, AV.ren1, AC.ren, AFrame.get, pl1_old, *]; first | done | rfl | omega) fun hw => ?_
      have hh := Stop.go h _ _ _ hw (hsN _ _) hrN hge
      rw [hlen] at hh
      exact hh
    · have hR : adRes [] year town traits = ([], 0, false) := by unfold adRes adOut; rw [hid, if_pos hv, if_neg hva]
      rw [hR] at h
      exact .one (k := siK [] []) (c := none) hwf (hsN _ _) ⟨rfl, rfl⟩ (by simp) (by simp [frOk, AV.okR, AV.ok1, AC.okR, AV.ren, AV.ren1, AC.ren, AFrame.get, pl1_old, *]; first | done | rfl | omega) (Stop.go h (H.push (siK [] [])) H.n [] (WF.push hwf (by simp) (by simp)) (Sub.push hwf (.refl _) _) siK_rows (by simp))
  · have hm : ps.length - 1 < ps.length := by omega
    obtain ⟨ex_x, e_x, hd_x⟩ := hat_ps.get hm
    obtain ⟨b_x, i_x, k_x, rfl, hat_x, htx_x⟩ := eSi_at hd_x
    have hb_x : b_x < H.n := (hwf b_x k_x hat_x.blk).1
    have hne_x : (b_x = H.n) = False := eq_false (by omega)
    have hne1_x : ∀ i, (b_x = H.n + i) = False := fun i => eq_false (by omega)
    have hne2_x := ne2_of (a := b_x) (b := H.n) (by omega)
    have w1 : IntKind.i64.wrap ((ps.length : Int) - 1) = (ps.length : Int) - 1 := wrap_id (by omega) (by omega)
    have w2 : ((ps.length : Int) - 1).toNat = ps.length - 1 := by omega
    have g1 : (0 : Int) < (ps.length : Int) := by omega
    have g2 : (ps.length : Int) - 1 < (ps.length : Int) := by omega
    have g3 : (1 : Int) ≤ (ps.length : Int) := by omega
    have g4 : (0 : Int) ≤ (ps.length : Int) - 1 := by omega
    have hid : adId ps = IntKind.i64.wrap (ps[ps.length - 1].id + 1) := by
      simp only [adId, List.getLast?_eq_getElem?, List.getElem?_eq_getElem hm]
    simp (config := {contextual := true, implicitDefEqProofs := false, maxSteps := 2000000}) [-Int.not_le, -Int.not_lt, argsF, impl_AddSighting_c, hat_ps.blk, hat_ps.esz, hat_ps.len, hon_ps, hne_ps, hne1_ps, hne2_ps, hsr, hsp, hst, hss, hsk, hv, hl, hl3, e_x, htx_x, hat_x.blk, hat_x.esz, hat_x.len, hat_x.els, hne_x, hne1_x, hne2_x, w1, w2, g1, g2, g3, g4, hm, h0]
    refine Stop.mk fun H1 b1 cs1 hw1 hs1 hr1 hg1 => ?_
    have hbd := hr1.bnd hw1
    have hn1 := hs1.1.1
    have hb1 := hbd b1 (by simp)
    have hrl := hr1.len
    have hrb := hr1.blkK
    have hbt : b_traits < H1.n := by omega
    have htb : H1.b b_traits = some k_traits := hs1.1.2 _ _ hat_traits.blk
    have qb : (b1 = H1.n) = False := eq_false (by omega)
    have qb1 : (b1 = H1.n + 1) = False := eq_false (by omega)
    simp (config := {contextual := true, implicitDefEqProofs := false, maxSteps := 2000000}) [-Int.not_le, -Int.not_lt, argsF, hat_traits.blk, hat_traits.esz, hat_traits.len, hat_traits.els, hne_traits, hne1_traits, hne2_traits, htb, htr, hrl, hrb, qb, qb1, hb3, hb4, hb5, hb6]
    have hrN := hr1.add1 hw1 ⟨IntKind.i64.wrap (ps[ps.length - 1].id + 1), year, town, traits⟩ (⟨32, 4, false, false, [[AC.int .i64 (IntKind.i64.wrap (ps[ps.length - 1].id + 1)), AC.int .i64 year, AC.str town, AC.sl H1.n 0 traits.length]]⟩)
    have hdN := hrN.dec (fun p hp => by
      rcases List.mem_append.1 hp with hp | hp
      · exact (hl2 p hp).2
      · rw [List.mem_singleton.1 hp]; exact htw) _ (SubE.refl _)
    have hge : ∀ c ∈ (H1.n + 1 + 1) :: (cs1 ++ [H1.n]), H.n ≤ c := fun c hc => by
      rcases List.mem_cons.1 hc with rfl | hc
      · omega
      · rcases List.mem_append.1 hc with hc | hc
        · exact hg1 c (List.mem_cons_of_mem _ hc)
        · rw [List.mem_singleton.1 hc]; omega
    have hsN := fun K1 K2 => Sub.push hwf (Sub.kill hwf (Sub.push hwf (Sub.push hwf hs1 (rowK eI 3 traits)) K1) (hg1 b1 (by simp))) K2
    have hE := siK_add (cs := cs1) (ps := ps) (p := ⟨IntKind.i64.wrap (ps[ps.length - 1].id + 1), year, town, traits⟩) (c := H1.n) hrl rfl
    simp only [siCells] at hE
    have hE2 := congrArg ABlk.els hE
    simp only [siK_els] at hE2
    rw [hE, hE2, List.take_of_length_le (by simp [hrl])]
    simp only [hdN, onv_some]
    refine ite_i (fun hva => ?_) (fun hva => ?_)
    · have hR : adRes ps year town traits = (ps ++ [⟨IntKind.i64.wrap (ps[ps.length - 1].id + 1), year, town, traits⟩], IntKind.i64.wrap (ps[ps.length - 1].id + 1), true) := by unfold adRes adOut; rw [hid, if_pos hv, if_pos hva]
      rw [hR] at h
      have hlen : (ps ++ [(⟨IntKind.i64.wrap (ps[ps.length - 1].id + 1), year, town, traits⟩ : Si)]).length = ps.length + 1 := by simp
      refine Out.whole (by simp only [push_n, kill_n]; omega) (by simp [frOk, AV.okR, AV.ok1, AC.okR, AV.ren, AV.ren1, AC.ren, AFrame.get, pl1_old, *]; first | done | rfl | omega) fun hw => ?_
      have hh := Stop.go h _ _ _ hw (hsN _ _) hrN hge
      rw [hlen] at hh
      exact hh
    · have hR : adRes ps year town traits = ([], 0, false) := by unfold adRes adOut; rw [hid, if_pos hv, if_neg hva]
      rw [hR] at h
      exact .one (k := siK [] []) (c := none) hwf (hsN _ _) ⟨rfl, rfl⟩ (by simp) (by simp [frOk, AV.okR, AV.ok1, AC.okR, AV.ren, AV.ren1, AC.ren, AFrame.get, pl1_old, *]; first | done | rfl | omega) (Stop.go h (H.push (siK [] [])) H.n [] (WF.push hwf (by simp) (by simp)) (Sub.push hwf (.refl _) _) siK_rows (by simp))

theorem spec_AddSighting_s : Sound Tryz.prog 22 q_ad := by
  intro args H K h
  unfold q_ad at h
  split at h
  rotate_left
  all_goals first | exact False.elim h | skip
  rename_i ps_v year town traits_v
  have h1 := EncH.rd_at h
  clear h
  obtain ⟨b_ps, i_ps, k_ps, ps, rfl, hat_ps, h⟩ := h1
  have h1 := Enc.rd_at h
  clear h
  obtain ⟨b_traits, i_traits, k_traits, traits, rfl, hat_traits, h⟩ := h1
  have hE := soundE_cons spec_l13Good_s (soundE_cons spec_l1Own_s (soundE_nil (P := Tryz.prog)))
  refine acalls_fn spec_AddSighting_k hE ⟨by simp, fun hwf => ?_⟩
  obtain ⟨hsr, hsp, hst, hss, hsk⟩ := hs_of hwf
  have hon_ps := hat_ps.on
  have hb_traits : b_traits < H.n := (hwf b_traits k_traits hat_traits.blk).1
  have hne_traits : (b_traits = H.n) = False := eq_false (by omega)
  have hne1_traits : ∀ i, (b_traits = H.n + i) = False := fun i => eq_false (by omega)
  have hne2_traits := ne2_of (a := b_traits) (b := H.n) (by omega)
  have hmx_traits : traits.length ≤ 9223372036854775807 := by have h1 := (hwf b_traits k_traits hat_traits.blk).2.2; have h2 := hat_traits.len; omega
  have hb_ps : b_ps < H.n := (hwf b_ps k_ps hat_ps.blk).1
  have hne_ps : (b_ps = H.n) = False := eq_false (by omega)
  have hne1_ps : ∀ i, (b_ps = H.n + i) = False := fun i => eq_false (by omega)
  have hne2_ps := ne2_of (a := b_ps) (b := H.n) (by omega)
  have hmx_ps : ps.length ≤ 9223372036854775807 := by have h1 := (hwf b_ps k_ps hat_ps.blk).2.2; have h2 := hat_ps.len; omega
  obtain ⟨hl, hl2, htw, htr, h⟩ := h
  have hl3 : ∀ p ∈ ps, p.traits.length ≤ 1048576 := fun p hp => (hl2 p hp).1
  have hb3 : (ps.length + 1) * 56 ≤ 140737488355328 := by omega
  have hb5 : (ps.length + 1) * 40 ≤ 140737488355328 := by omega
  have hb6 : (ps.length + 1) * 48 ≤ 140737488355328 := by omega
  have hb4 : ps.length + 1 ≤ 140737488355328 := by omega
  rcases Nat.eq_zero_or_pos ps.length with h0 | h0
  · have g0 : ¬ (0 : Int) < (ps.length : Int) := by omega
    have hid : adId ps = 1 := by rw [List.eq_nil_of_length_eq_zero h0]; rfl
    have g0n : ¬ 0 < ps.length := by omega
    simp (config := {contextual := true, implicitDefEqProofs := false, maxSteps := 2000000}) [-Int.not_le, -Int.not_lt, argsF, spec_AddSighting_c, hat_ps.blk, hat_ps.esz, hat_ps.len, hon_ps, hne_ps, hne1_ps, hne2_ps, hsr, hsp, hst, hss, hsk, g0, g0n]
    refine aloop_heap (X := AX × Nat) (fun x => [(0, .c (.sl b_ps i_ps ps.length)), (1, .c (.int .i64 (year))), (2, .c (.str (town))), (3, .c (.sl b_traits i_traits traits.length)), (11, .c (.int .i64 (adId ps))), (13, .c (.sl (x.1.b) (0) (x.2))), (14, .c (.int .i64 ((x.2 : Int))))]) (fun x => x.1.H) (fun x => x.1.Ok H H.n (ps.take x.2) ∧ x.2 ≤ ps.length) (fun x => ps.length - x.2) hE _
      (⟨H.push (siK [] []), H.n, []⟩, 0) ⟨⟨Sub.push hwf (.refl _) _, by simpa using siK_rows, by simp⟩, Nat.zero_le _⟩ (fun hw0 => .since (by simp only [push_n]; omega) hw0 (.refl _) (by simp [frOk, AV.okR, AV.ok1, AC.okR, AV.ren, AV.ren1, AC.ren, AFrame.get, pl1_old, *]; first | done | rfl | omega)) (fun x hx hwx => ?_)
    obtain ⟨x, j⟩ := x
    obtain ⟨hok, hj⟩ := hx
    simp only at hok hj
    have hnx := hok.sub.1.1
    have hbd := hok.rows.bnd hwx
    have hxb := hbd x.b (by simp)
    have hbt : b_traits < x.H.n := by omega
    rcases Nat.lt_or_ge j ps.length with hlt | hge
    rotate_left
    · obtain rfl : j = ps.length := by omega
      have htb : x.H.b b_traits = some k_traits := hok.sub.1.2 _ _ hat_traits.blk
      have hpb : x.H.b b_ps = some k_ps := hok.sub.1.2 _ _ hat_ps.blk
      have hxg := hok.ge x.b (by simp)
      have hrr := hok.rows
      rw [List.take_length] at hrr
      have hrl := hrr.len
      have hrb := hrr.blkK
      have qb : (x.b = x.H.n) = False := eq_false (by omega)
      have qb1 : (x.b = x.H.n + 1) = False := eq_false (by omega)
      have qp : (b_ps = x.H.n) = False := eq_false (by omega)
      have qp1 : (b_ps = x.H.n + 1) = False := eq_false (by omega)
      have qp2 : (b_ps = x.H.n + 1 + 1) = False := eq_false (by omega)
      have qp3 : (b_ps = x.b) = False := eq_false (by omega)
      simp (config := {contextual := true, implicitDefEqProofs := false, maxSteps := 2000000}) [-Int.not_le, -Int.not_lt, argsF, spec_AddSighting_l0, hat_traits.blk, hat_traits.esz, hat_traits.len, hat_traits.els, hne_traits, hne1_traits, hne2_traits, htb, hpb, hat_ps.esz, hat_ps.len, htr, hrl, hrb, qb, qb1, qp, qp1, qp2, qp3, hb3, hb4, hb5, hb6]
      have hrN := hrr.add1 hwx ⟨adId ps, year, town, traits⟩ ⟨32, 4, false, false, [[AC.int .i64 (adId ps), AC.int .i64 year, AC.str town, AC.sl x.H.n 0 traits.length]]⟩
      have hdN := hrN.dec (fun p hp => by
        rcases List.mem_append.1 hp with hp | hp
        · exact (hl2 p hp).2
        · rw [List.mem_singleton.1 hp]; exact htw) _ (SubE.refl _)
      have hgN : ∀ c ∈ (x.H.n + 1 + 1) :: (x.cs ++ [x.H.n]), H.n ≤ c := fun c hc => by
        rcases List.mem_cons.1 hc with rfl | hc
        · omega
        · rcases List.mem_append.1 hc with hc | hc
          · exact hok.ge c (List.mem_cons_of_mem _ hc)
          · rw [List.mem_singleton.1 hc]; omega
      have hsN := fun K1 K2 => Sub.push hwf (Sub.kill hwf (Sub.push hwf (Sub.push hwf hok.sub (rowK eI 3 traits)) K1) hxg) K2
      have hE1 := siK_add (cs := x.cs) (ps := ps) (p := ⟨adId ps, year, town, traits⟩) (c := x.H.n) hrl rfl
      simp only [siCells] at hE1
      have hE2 := congrArg ABlk.els hE1
      simp only [siK_els] at hE2
      rw [hE1]
      simp only [hon_ps _ (SubE.of_sub (hsN _ _)), onv_some]
      rw [hE2, List.take_of_length_le (l := List.zipWith siCells (x.cs ++ [x.H.n]) (ps ++ [(⟨adId ps, year, town, traits⟩ : Si)])) (by simp [hrl])]
      simp only [onv_some, hdN]
      by_cases hv : areSi ps = true
      rotate_left
      · have hR : adRes ps year town traits = ([], 0, false) := by unfold adRes; rw [if_neg hv]
        rw [hR] at h
        simp only [hv, if_false, reduceCtorEq]
        exact .one (k := siK [] []) (c := some (x.H.n + 1 + 1 + 1)) hwf (Sub.push hwf (hsN _ _) _) ⟨by omega, by simp [push_b, siK]⟩ (by simp) (by simp [frOk, AV.okR, AV.ok1, AC.okR, AV.ren, AV.ren1, AC.ren, AFrame.get, pl1_old, *]; first | done | rfl | omega) (Stop.go h (H.push (siK [] [])) H.n [] (WF.push hwf (by simp) (by simp)) (Sub.push hwf (.refl _) _) siK_rows (by simp))
      simp only [hv, if_true]
      by_cases hva : areSi (ps ++ [⟨adId ps, year, town, traits⟩]) = true
      rotate_left
      · have hR : adRes ps year town traits = ([], 0, false) := by unfold adRes adOut; rw [if_pos hv, if_neg hva]
        rw [hR] at h
        simp only [hva, if_false, reduceCtorEq]
        exact .one (k := siK [] []) (c := some (x.H.n + 1 + 1 + 1)) hwf (Sub.push hwf (hsN _ _) _) ⟨by omega, by simp [push_b, siK]⟩ (by simp) (by simp [frOk, AV.okR, AV.ok1, AC.okR, AV.ren, AV.ren1, AC.ren, AFrame.get, pl1_old, *]; first | done | rfl | omega) (Stop.go h (H.push (siK [] [])) H.n [] (WF.push hwf (by simp) (by simp)) (Sub.push hwf (.refl _) _) siK_rows (by simp))
      simp only [hva, if_true]
      have hR : adRes ps year town traits = (ps ++ [⟨adId ps, year, town, traits⟩], adId ps, true) := by unfold adRes adOut; rw [if_pos hv, if_pos hva]
      rw [hR] at h
      have hlen : (ps ++ [(⟨adId ps, year, town, traits⟩ : Si)]).length = ps.length + 1 := by simp
      refine Out.whole (by simp only [push_n, kill_n]; omega) (by simp [frOk, AV.okR, AV.ok1, AC.okR, AV.ren, AV.ren1, AC.ren, AFrame.get, pl1_old, *]; first | done | rfl | omega) fun hw => ?_
      have hh := Stop.go h _ _ _ hw (hsN _ _) hrN hgN
      rw [hlen] at hh
      exact hh
    have hj1 := idx_lt hlt
    have w1 : IntKind.i64.wrap ((j : Int) + 1) = (j : Int) + 1 := wrap_id (by omega) (by omega)
    have hat_ps : eSi.At x.H b_ps i_ps k_ps ps := hat_ps.sub hok.sub
    have hwf0 := hwf
    have hwf := hwx
    obtain ⟨ex_x, e_x, hd_x⟩ := hat_ps.get hlt
    obtain ⟨b_x, i_x, k_x, rfl, hat_x, htx_x⟩ := eSi_at hd_x
    have hb_x : b_x < x.H.n := (hwf b_x k_x hat_x.blk).1
    have hne_x : (b_x = x.H.n) = False := eq_false (by omega)
    have hne1_x : ∀ i, (b_x = x.H.n + i) = False := fun i => eq_false (by omega)
    have hne2_x := ne2_of (a := b_x) (b := x.H.n) (by omega)
    have htr := hl3 _ (List.getElem_mem hlt)
    have hlt0 : (ps.take j).length = j := by rw [List.length_take]; omega
    have hrl := hok.rows.len
    rw [hlt0] at hrl
    have hrb := hok.rows.blkK
    have hb3 : (j + 1) * 56 ≤ 140737488355328 := by omega
    have hb5 : (j + 1) * 40 ≤ 140737488355328 := by omega
    have hb6 : (j + 1) * 48 ≤ 140737488355328 := by omega
    have hb4 : j + 1 ≤ 140737488355328 := by omega
    have hbp : b_ps < x.H.n := (hwx _ _ hat_ps.blk).1
    have qb : (x.b = x.H.n) = False := eq_false (by omega)
    have qb1 : (x.b = x.H.n + 1) = False := eq_false (by omega)
    have qb2 : (x.b = x.H.n + 1 + 1) = False := eq_false (by omega)
    simp (config := {contextual := true, implicitDefEqProofs := false, maxSteps := 2000000}) [-Int.not_le, -Int.not_lt, argsF, spec_AddSighting_l0, hj1, hlt, w1, hat_ps.blk, hat_ps.esz, hat_ps.len, e_x, htx_x, hat_x.blk, hat_x.esz, hat_x.len, hat_x.els, hne_x, hne1_x, hne2_x, htr, hrb, hrl, hlt0, qb, qb1, qb2, hb3, hb4, hb5, hb6]
    have e := siK_add (cs := x.cs) (ps := ps.take j) (p := ps[j]) (c := x.H.n + 1) hok.rows.len rfl
    rw [hlt0] at e
    simp only [siCells] at e
    rw [e]
    exact ⟨fun hw => ⟨(⟨_, x.H.n + 1 + 1 + 1, x.cs ++ [x.H.n + 1]⟩, j + 1), ⟨by simp only; rw [List.take_succ_eq_append_getElem hlt]; exact hok.add hwf0 hnx hwf ps[j] _ _ _, hlt⟩, by simp only; omega, .since (by simp only [push_n, kill_n, set_n]; omega) hw (.refl _) (by simp [frOk, AV.okR, AV.ok1, AC.okR, AV.ren, AV.ren1, AC.ren, AFrame.get, pl1_old, *]; first | done | rfl | omega)⟩⟩

  · have hm : ps.length - 1 < ps.length := by omega
    obtain ⟨ex_x, e_x, hd_x⟩ := hat_ps.get hm
    obtain ⟨b_x, i_x, k_x, rfl, hat_x, htx_x⟩ := eSi_at hd_x
    have hb_x : b_x < H.n := (hwf b_x k_x hat_x.blk).1
    have hne_x : (b_x = H.n) = False := eq_false (by omega)
    have hne1_x : ∀ i, (b_x = H.n + i) = False := fun i => eq_false (by omega)
    have hne2_x := ne2_of (a := b_x) (b := H.n) (by omega)
    have w1 : IntKind.i64.wrap ((ps.length : Int) - 1) = (ps.length : Int) - 1 := wrap_id (by omega) (by omega)
    have w2 : ((ps.length : Int) - 1).toNat = ps.length - 1 := by omega
    have g1 : (0 : Int) < (ps.length : Int) := by omega
    have g2 : (ps.length : Int) - 1 < (ps.length : Int) := by omega
    have g3 : (1 : Int) ≤ (ps.length : Int) := by omega
    have g4 : (0 : Int) ≤ (ps.length : Int) - 1 := by omega
    have hid : adId ps = IntKind.i64.wrap (ps[ps.length - 1].id + 1) := by
      simp only [adId, List.getLast?_eq_getElem?, List.getElem?_eq_getElem hm]
    simp (config := {contextual := true, implicitDefEqProofs := false, maxSteps := 2000000}) [-Int.not_le, -Int.not_lt, argsF, spec_AddSighting_c, hat_ps.blk, hat_ps.esz, hat_ps.len, hon_ps, hne_ps, hne1_ps, hne2_ps, hsr, hsp, hst, hss, hsk, hl, hl3, e_x, htx_x, hat_x.blk, hat_x.esz, hat_x.len, hat_x.els, hne_x, hne1_x, hne2_x, w1, w2, g1, g2, g3, g4, hm, h0]
    clear hat_x htx_x hd_x e_x
    refine aloop_heap (X := AX × Nat) (fun x => [(0, .c (.sl b_ps i_ps ps.length)), (1, .c (.int .i64 (year))), (2, .c (.str (town))), (3, .c (.sl b_traits i_traits traits.length)), (11, .c (.int .i64 (adId ps))), (13, .c (.sl (x.1.b) (0) (x.2))), (14, .c (.int .i64 ((x.2 : Int))))]) (fun x => x.1.H) (fun x => x.1.Ok H H.n (ps.take x.2) ∧ x.2 ≤ ps.length) (fun x => ps.length - x.2) hE _
      (⟨H.push (siK [] []), H.n, []⟩, 0) ⟨⟨Sub.push hwf (.refl _) _, by simpa using siK_rows, by simp⟩, Nat.zero_le _⟩ (fun hw0 => .since (by simp only [push_n]; omega) hw0 (.refl _) (by simp [frOk, AV.okR, AV.ok1, AC.okR, AV.ren, AV.ren1, AC.ren, AFrame.get, pl1_old, *]; first | done | rfl | omega)) (fun x hx hwx => ?_)
    obtain ⟨x, j⟩ := x
    obtain ⟨hok, hj⟩ := hx
    simp only at hok hj
    have hnx := hok.sub.1.1
    have hbd := hok.rows.bnd hwx
    have hxb := hbd x.b (by simp)
    have hbt : b_traits < x.H.n := by omega
    rcases Nat.lt_or_ge j ps.length with hlt | hge
    rotate_left
    · obtain rfl : j = ps.length := by omega
      have htb : x.H.b b_traits = some k_traits := hok.sub.1.2 _ _ hat_traits.blk
      have hpb : x.H.b b_ps = some k_ps := hok.sub.1.2 _ _ hat_ps.blk
      have hxg := hok.ge x.b (by simp)
      have hrr := hok.rows
      rw [List.take_length] at hrr
      have hrl := hrr.len
      have hrb := hrr.blkK
      have qb : (x.b = x.H.n) = False := eq_false (by omega)
      have qb1 : (x.b = x.H.n + 1) = False := eq_false (by omega)
      have qp : (b_ps = x.H.n) = False := eq_false (by omega)
      have qp1 : (b_ps = x.H.n + 1) = False := eq_false (by omega)
      have qp2 : (b_ps = x.H.n + 1 + 1) = False := eq_false (by omega)
      have qp3 : (b_ps = x.b) = False := eq_false (by omega)
      simp (config := {contextual := true, implicitDefEqProofs := false, maxSteps := 2000000}) [-Int.not_le, -Int.not_lt, argsF, spec_AddSighting_l0, hat_traits.blk, hat_traits.esz, hat_traits.len, hat_traits.els, hne_traits, hne1_traits, hne2_traits, htb, hpb, hat_ps.esz, hat_ps.len, htr, hrl, hrb, qb, qb1, qp, qp1, qp2, qp3, hb3, hb4, hb5, hb6]
      have hrN := hrr.add1 hwx ⟨adId ps, year, town, traits⟩ ⟨32, 4, false, false, [[AC.int .i64 (adId ps), AC.int .i64 year, AC.str town, AC.sl x.H.n 0 traits.length]]⟩
      have hdN := hrN.dec (fun p hp => by
        rcases List.mem_append.1 hp with hp | hp
        · exact (hl2 p hp).2
        · rw [List.mem_singleton.1 hp]; exact htw) _ (SubE.refl _)
      have hgN : ∀ c ∈ (x.H.n + 1 + 1) :: (x.cs ++ [x.H.n]), H.n ≤ c := fun c hc => by
        rcases List.mem_cons.1 hc with rfl | hc
        · omega
        · rcases List.mem_append.1 hc with hc | hc
          · exact hok.ge c (List.mem_cons_of_mem _ hc)
          · rw [List.mem_singleton.1 hc]; omega
      have hsN := fun K1 K2 => Sub.push hwf (Sub.kill hwf (Sub.push hwf (Sub.push hwf hok.sub (rowK eI 3 traits)) K1) hxg) K2
      have hE1 := siK_add (cs := x.cs) (ps := ps) (p := ⟨adId ps, year, town, traits⟩) (c := x.H.n) hrl rfl
      simp only [siCells] at hE1
      have hE2 := congrArg ABlk.els hE1
      simp only [siK_els] at hE2
      rw [hE1]
      simp only [hon_ps _ (SubE.of_sub (hsN _ _)), onv_some]
      rw [hE2, List.take_of_length_le (l := List.zipWith siCells (x.cs ++ [x.H.n]) (ps ++ [(⟨adId ps, year, town, traits⟩ : Si)])) (by simp [hrl])]
      simp only [onv_some, hdN]
      by_cases hv : areSi ps = true
      rotate_left
      · have hR : adRes ps year town traits = ([], 0, false) := by unfold adRes; rw [if_neg hv]
        rw [hR] at h
        simp only [hv, if_false, reduceCtorEq]
        exact .one (k := siK [] []) (c := some (x.H.n + 1 + 1 + 1)) hwf (Sub.push hwf (hsN _ _) _) ⟨by omega, by simp [push_b, siK]⟩ (by simp) (by simp [frOk, AV.okR, AV.ok1, AC.okR, AV.ren, AV.ren1, AC.ren, AFrame.get, pl1_old, *]; first | done | rfl | omega) (Stop.go h (H.push (siK [] [])) H.n [] (WF.push hwf (by simp) (by simp)) (Sub.push hwf (.refl _) _) siK_rows (by simp))
      simp only [hv, if_true]
      by_cases hva : areSi (ps ++ [⟨adId ps, year, town, traits⟩]) = true
      rotate_left
      · have hR : adRes ps year town traits = ([], 0, false) := by unfold adRes adOut; rw [if_pos hv, if_neg hva]
        rw [hR] at h
        simp only [hva, if_false, reduceCtorEq]
        exact .one (k := siK [] []) (c := some (x.H.n + 1 + 1 + 1)) hwf (Sub.push hwf (hsN _ _) _) ⟨by omega, by simp [push_b, siK]⟩ (by simp) (by simp [frOk, AV.okR, AV.ok1, AC.okR, AV.ren, AV.ren1, AC.ren, AFrame.get, pl1_old, *]; first | done | rfl | omega) (Stop.go h (H.push (siK [] [])) H.n [] (WF.push hwf (by simp) (by simp)) (Sub.push hwf (.refl _) _) siK_rows (by simp))
      simp only [hva, if_true]
      have hR : adRes ps year town traits = (ps ++ [⟨adId ps, year, town, traits⟩], adId ps, true) := by unfold adRes adOut; rw [if_pos hv, if_pos hva]
      rw [hR] at h
      have hlen : (ps ++ [(⟨adId ps, year, town, traits⟩ : Si)]).length = ps.length + 1 := by simp
      refine Out.whole (by simp only [push_n, kill_n]; omega) (by simp [frOk, AV.okR, AV.ok1, AC.okR, AV.ren, AV.ren1, AC.ren, AFrame.get, pl1_old, *]; first | done | rfl | omega) fun hw => ?_
      have hh := Stop.go h _ _ _ hw (hsN _ _) hrN hgN
      rw [hlen] at hh
      exact hh
    have hj1 := idx_lt hlt
    have w1 : IntKind.i64.wrap ((j : Int) + 1) = (j : Int) + 1 := wrap_id (by omega) (by omega)
    have hat_ps : eSi.At x.H b_ps i_ps k_ps ps := hat_ps.sub hok.sub
    have hwf0 := hwf
    have hwf := hwx
    obtain ⟨ex_x, e_x, hd_x⟩ := hat_ps.get hlt
    obtain ⟨b_x, i_x, k_x, rfl, hat_x, htx_x⟩ := eSi_at hd_x
    have hb_x : b_x < x.H.n := (hwf b_x k_x hat_x.blk).1
    have hne_x : (b_x = x.H.n) = False := eq_false (by omega)
    have hne1_x : ∀ i, (b_x = x.H.n + i) = False := fun i => eq_false (by omega)
    have hne2_x := ne2_of (a := b_x) (b := x.H.n) (by omega)
    have htr := hl3 _ (List.getElem_mem hlt)
    have hlt0 : (ps.take j).length = j := by rw [List.length_take]; omega
    have hrl := hok.rows.len
    rw [hlt0] at hrl
    have hrb := hok.rows.blkK
    have hb3 : (j + 1) * 56 ≤ 140737488355328 := by omega
    have hb5 : (j + 1) * 40 ≤ 140737488355328 := by omega
    have hb6 : (j + 1) * 48 ≤ 140737488355328 := by omega
    have hb4 : j + 1 ≤ 140737488355328 := by omega
    have hbp : b_ps < x.H.n := (hwx _ _ hat_ps.blk).1
    have qb : (x.b = x.H.n) = False := eq_false (by omega)
    have qb1 : (x.b = x.H.n + 1) = False := eq_false (by omega)
    have qb2 : (x.b = x.H.n + 1 + 1) = False := eq_false (by omega)
    simp (config := {contextual := true, implicitDefEqProofs := false, maxSteps := 2000000}) [-Int.not_le, -Int.not_lt, argsF, spec_AddSighting_l0, hj1, hlt, w1, hat_ps.blk, hat_ps.esz, hat_ps.len, e_x, htx_x, hat_x.blk, hat_x.esz, hat_x.len, hat_x.els, hne_x, hne1_x, hne2_x, htr, hrb, hrl, hlt0, qb, qb1, qb2, hb3, hb4, hb5, hb6]
    have e := siK_add (cs := x.cs) (ps := ps.take j) (p := ps[j]) (c := x.H.n + 1) hok.rows.len rfl
    rw [hlt0] at e
    simp only [siCells] at e
    rw [e]
    exact ⟨fun hw => ⟨(⟨_, x.H.n + 1 + 1 + 1, x.cs ++ [x.H.n + 1]⟩, j + 1), ⟨by simp only; rw [List.take_succ_eq_append_getElem hlt]; exact hok.add hwf0 hnx hwf ps[j] _ _ _, hlt⟩, by simp only; omega, .since (by simp only [push_n, kill_n, set_n]; omega) hw (.refl _) (by simp [frOk, AV.okR, AV.ok1, AC.okR, AV.ren, AV.ren1, AC.ren, AFrame.get, pl1_old, *]; first | done | rfl | omega)⟩⟩

end Go.Proofs.YtafenginfojcmaaGreatDoor
set_option maxRecDepth 8000
set_option linter.unusedSimpArgs false
set_option linter.unusedVariables false
namespace Go.Proofs.YtafenginfojcmaaGreatDoor
open Go Go.RowKit

/-- the table that strconv reads stands -/
def tabI : World → Prop := fun w => Lib.TabIs Tryz.prog w "internal/strconv.uint64pow10" .u64 Lib.pow10Tab
def numT (n : Int) : List UInt8 := Lib.decDigits n.toNat
theorem numT_small {n : Int} (h0 : 0 ≤ n) (h : n < 10) : numT n = [UInt8.ofNat (48 + n.toNat)] := by
  unfold numT
  rw [Lib.decDigits, dif_pos (by omega)]
theorem numT_big {n : Int} (h : 10 ≤ n) : numT n = numT (n / 10) ++ [UInt8.ofNat (48 + (n % 10).toNat)] := by
  unfold numT
  rw [Lib.decDigits, dif_neg (by omega)]
  have e1 : n.toNat / 10 = (n / 10).toNat := by omega
  have e2 : n.toNat % 10 = (n % 10).toNat := by omega
  rw [e1, e2]
theorem numT_len : ∀ (m : Nat) (n : Int), 0 ≤ n → n < 10 ^ (m + 1) → (numT n).length ≤ m + 1
  | 0, n, h0, h => by rw [numT_small h0 (by simpa using h)]; simp
  | m + 1, n, h0, h => by
    rcases Int.lt_or_le n 10 with h1 | h1
    · rw [numT_small h0 h1]; simp
    · have hp : (10 : Int) ^ (m + 1 + 1) = 10 ^ (m + 1) * 10 := by rw [Int.pow_succ]
      rw [hp] at h
      have := numT_len m (n / 10) (by omega) (by omega)
      rw [numT_big h1]; simp; omega
theorem numT_len19 {n : Int} (h0 : 0 ≤ n) (h : n ≤ 9223372036854775807) : (numT n).length ≤ 19 := numT_len 18 n h0 (by
  have : (10 : Int) ^ (18 + 1) = 10000000000000000000 := by decide
  omega)
theorem itoa_numT {n : Int} (h0 : 0 ≤ n) : Lib.itoa n = numT n := by
  unfold Lib.itoa numT
  rw [if_neg (by omega)]

def q_itoa : Con := fun args H K => match args with
  | [.c (.int .i64 n)] => (∀ w, H.I w → tabI w) ∧ 0 ≤ n ∧ n ≤ 9223372036854775807 ∧ K (.c (.str (numT n))) H
  | _ => False
@[simp ↓] theorem q_itoa_eq (n : Int) (H : AHeap) (K : AV → AHeap → Prop) : q_itoa [.c (.int .i64 n)] H K = ((∀ w, H.I w → tabI w) ∧ 0 ≤ n ∧ n ≤ 9223372036854775807 ∧ K (.c (.str (numT n))) H) := rfl

theorem strconv_Itoa_s : Sound Tryz.prog 56 q_itoa := by
  intro args H K h
  unfold q_itoa at h
  split at h
  rotate_left
  all_goals first | exact False.elim h | skip
  rename_i n
  obtain ⟨hI, h0, h1, h⟩ := h
  refine ⟨fun args w => enters_of Tryz.func56 (by kernel_rfl) rfl args w, fun φ B w vs hH hr => ?_⟩
  obtain ⟨v, rfl⟩ : ∃ v, vs = [v] := by
    match vs, hr with
    | [v], _ => exact ⟨v, rfl⟩
    | [], hr => exact hr.elim
    | _ :: _ :: _, hr => exact hr.2.elim
  have hv : v = .int .i64 n := hr.1
  subst hv
  refine (Tryz.strconv_Itoa n (by omega) h1 w (hI w (hH.inv w (Below.refl _ _)))).mono ?_
  rintro e w' ⟨rfl, k, os, rfl⟩
  have hb : Below w.heap.size w (Sort.grow (w.drewN k) os) := ⟨rfl, rfl, rfl, by simp [Sort.grow, World.drewN], fun i hi => by simp [Sort.grow, World.drewN, Array.getElem?_append, hi]⟩
  exact ⟨.c (.str (numT n)), _, φ, H, rfl, by rw [itoa_numT h0]; rfl, hH.keep hb, .of_below hH.size hH.tlt hb, Nat.le_refl _, fun _ _ => rfl, h⟩

def q_num : Con := fun args H K => match args with
  | [.c (.int .i64 n)] => 0 ≤ n ∧ n ≤ 9223372036854775807 ∧ K (.c (.str (numT n))) H
  | _ => False
@[simp ↓] theorem q_num_eq (n : Int) (H : AHeap) (K : AV → AHeap → Prop) : q_num [.c (.int .i64 n)] H K = (0 ≤ n ∧ n ≤ 9223372036854775807 ∧ K (.c (.str (numT n))) H) := rfl

def q_numB : Con := fun args H K => match args with
  | [.c (.int .i64 n)] => 0 ≤ n ∧ n ≤ 9223372036854775807 ∧ n < (0 : Int) ∧ K (.c (.str (numT n))) H
  | _ => False
@[simp ↓] theorem q_numB_eq (n : Int) (H : AHeap) (K : AV → AHeap → Prop) : q_numB [.c (.int .i64 n)] H K = (0 ≤ n ∧ n ≤ 9223372036854775807 ∧ n < (0 : Int) ∧ K (.c (.str (numT n))) H) := rfl

theorem digit_at {n : Int} (h0 : 0 ≤ n) (h : n < 10) : (([48, 49, 50, 51, 52, 53, 54, 55, 56, 57] : List UInt8).take (n + 1).toNat).drop n.toNat = [UInt8.ofNat (48 + n.toNat)] := by
  have hc : n = 0 ∨ n = 1 ∨ n = 2 ∨ n = 3 ∨ n = 4 ∨ n = 5 ∨ n = 6 ∨ n = 7 ∨ n = 8 ∨ n = 9 := by omega
  rcases hc with rfl | rfl | rfl | rfl | rfl | rfl | rfl | rfl | rfl | rfl <;> rfl
def q_numM (m : Nat) : Con := fun args H K => match args with
  | [.c (.int .i64 (n))] => 0 ≤ n ∧ n ≤ 9223372036854775807 ∧ n < (m : Int) ∧ K (.c (.str (numT n))) H
  | _ => False
@[simp ↓] theorem q_numM_eq (m : Nat) (n : Int) (H : AHeap) (K : AV → AHeap → Prop) : q_numM m [.c (.int .i64 (n))] H K = (0 ≤ n ∧ n ≤ 9223372036854775807 ∧ n < (m : Int) ∧ K (.c (.str (numT n))) H) := rfl
theorem l1Num_m : ∀ m, Sound Tryz.prog 58 (q_numM m) := by
  intro m
  induction m with
  | zero =>
    intro args H K h
    unfold q_numM at h
    split at h
    · exact absurd h.2.2.1 (by have := h.1; omega)
    · exact h.elim
  | succ m ih =>
    intro args H K h
    unfold q_numM at h
    split at h
    rotate_left
    all_goals first | exact False.elim h | skip
    rename_i n
    obtain ⟨h0, h1, h2, h⟩ := h
    have hE := soundE_cons ih (soundE_nil (P := Tryz.prog))
    refine acalls_fn spec_l1Num_k hE ⟨by simp, fun hwf => ?_⟩
    have hn0 : ¬ n < 0 := by omega
    rcases Int.lt_or_le n 10 with hs | hs
    · have w1 : IntKind.i64.wrap (n + 1) = n + 1 := wrap_id (by omega) (by omega)
      have hd := digit_at h0 hs
      have g1 : n ≤ n + 1 := by omega
      have g2 : n + 1 ≤ 10 := by omega
      simp (config := {contextual := true, implicitDefEqProofs := false, maxSteps := 60000}) [-Int.not_le, -Int.not_lt, argsF, spec_l1Num_c, hn0, hs, w1, hd, h0, g1, g2]
      rw [numT_small h0 hs] at h
      (refine Out.plain hwf ?_ rfl ?_; (repeat first | exact Sub.refl _ | refine Sub.push hwf ?_ _ | refine Sub.set hwf ?_ (by first | exact Nat.le_refl _ | omega | (simp only [push_n, set_n, kill_n]; omega)) _ | refine Sub.kill hwf ?_ (by first | exact Nat.le_refl _ | omega | (simp only [push_n, set_n, kill_n]; omega)))); simpa using h
    · have hs' : ¬ n < 10 := by omega
      have e1 : n.tdiv 10 = n / 10 := Int.tdiv_eq_ediv_of_nonneg h0
      have e2 : n.tmod 10 = n % 10 := Int.tmod_eq_emod_of_nonneg h0
      have w0 : IntKind.i64.wrap (n / 10) = n / 10 := wrap_id (by omega) (by omega)
      have w1 : IntKind.i64.wrap (n % 10 + 1) = n % 10 + 1 := wrap_id (by omega) (by omega)
      have hd := digit_at (n := n % 10) (by omega) (by omega)
      have g0 : 0 ≤ n % 10 := by omega
      have g1 : n % 10 ≤ n % 10 + 1 := by omega
      have g2 : n % 10 + 1 ≤ 10 := by omega
      have g3 : 0 ≤ n / 10 := by omega
      have g4 : n / 10 ≤ 9223372036854775807 := by omega
      have g5 : n / 10 < (m : Int) := by omega
      have g6 : (numT (n / 10)).length + 1 ≤ 9223372036854775807 := by have := numT_len19 g3 g4; omega
      simp (config := {contextual := true, implicitDefEqProofs := false, maxSteps := 60000}) [-Int.not_le, -Int.not_lt, argsF, spec_l1Num_c, hn0, hs', e1, e2, w0, w1, hd, g0, g1, g2, g3, g4, g5, g6]
      rw [numT_big hs] at h
      (refine Out.plain hwf ?_ rfl ?_; (repeat first | exact Sub.refl _ | refine Sub.push hwf ?_ _ | refine Sub.set hwf ?_ (by first | exact Nat.le_refl _ | omega | (simp only [push_n, set_n, kill_n]; omega)) _ | refine Sub.kill hwf ?_ (by first | exact Nat.le_refl _ | omega | (simp only [push_n, set_n, kill_n]; omega)))); simpa using h
theorem spec_l1Num_s : Sound Tryz.prog 58 q_num := by
  intro args H K h
  unfold q_num at h
  split at h
  · rename_i n
    exact l1Num_m (n.toNat + 1) _ H K ⟨h.1, h.2.1, by omega, h.2.2⟩
  · exact h.elim

end Go.Proofs.YtafenginfojcmaaGreatDoor
set_option maxRecDepth 8000
set_option linter.unusedSimpArgs false
set_option linter.unusedVariables false
namespace Go.Proofs.YtafenginfojcmaaGreatDoor
open Go Go.RowKit

set_option maxHeartbeats 4000000
theorem areSi_one (s : Si) : areSi [s] = isSi s := by
  simp only [areSi, siGo]
  cases isSi s <;> simp
def stGo : List Int → List UInt8 → List UInt8
  | [], o => o
  | t :: r, o => stGo r (o ++ ([32, 35] ++ numT t))
def stTxt (s : Si) : List UInt8 := stGo s.traits (numT s.id ++ [32] ++ s.town ++ [32] ++ numT s.year)
def stRes (s : Si) : List UInt8 × Bool := if isSi s = true then (stTxt s, true) else ([], false)
theorem wordGo_len {n : Nat} : ∀ {l : List UInt8}, wordGo n l = true → inR n 1 10 = true
  | [], h => h
  | c :: r, h => by
    simp only [wordGo] at h
    split at h
    · cases h
    · split at h
      · cases h
      · exact wordGo_len h
theorem isSi_b {s : Si} (h : isSi s = true) : 1 ≤ s.id ∧ s.id ≤ 999 ∧ 1840 ≤ s.year ∧ s.year ≤ 2100 ∧ s.town.length ≤ 10 ∧ s.traits.length ≤ 8 ∧ ∀ t ∈ s.traits, 1 ≤ t ∧ t ≤ 50 := by
  simp only [isSi, Bool.and_eq_true, decide_eq_true_eq] at h
  obtain ⟨h1, h2, h3, h4, h5⟩ := h
  have hw := wordGo_len (l := s.town) (n := s.town.length) h3
  have hr : ∀ (l : List Int) (o : Option Int), risGo 1 50 o l = true → ∀ t ∈ l, 1 ≤ t ∧ t ≤ 50 := by
    intro l
    induction l with
    | nil => intro o _ t ht; cases ht
    | cons x r ih =>
      intro o hx t ht
      simp only [risGo, Bool.if_false_right, Bool.and_eq_true, decide_eq_true_eq] at hx
      rcases List.mem_cons.1 ht with rfl | ht
      · have := hx.1; simp only [inR, decide_eq_true_eq] at this; exact this
      · exact ih _ hx.2.2 t ht
  have ht := hr s.traits none h5
  simp only [inR, decide_eq_true_eq] at h1 h2 hw
  exact ⟨h1.1, h1.2, h2.1, h2.2, by omega, by omega, ht⟩

def q_st : Con := fun args H K => match args with
  | [.agg s_e] => onv (eSi.dec H s_e) fun s => (∀ w, H.I w → tabI w) ∧ K (.tup [.c (.str ((stRes s).1)), .c (.bool ((stRes s).2))]) H
  | _ => False
@[simp ↓] theorem q_st_eq (s_e : List AC) (H : AHeap) (K : AV → AHeap → Prop) : q_st [.agg s_e] H K = (onv (eSi.dec H s_e) fun s => (∀ w, H.I w → tabI w) ∧ K (.tup [.c (.str ((stRes s).1)), .c (.bool ((stRes s).2))]) H) := rfl

@[simp] theorem onv_decL_one {α : Type} (E : EncH α) (H : AHeap) (e : List AC) (K : List α → Prop) : onv (E.decL H [e]) K = onv (E.dec H e) fun x => K [x] := by
  simp only [EncH.decL]
  cases E.dec H e <;> rfl
@[simp] theorem si_eta1 (p : Si) : (⟨p.id, p.year, p.town, p.traits⟩ : Si) = p := (rfl)

theorem impl_SightingText_s : Sound Tryz.prog 24 q_st := by
  intro args H K h
  unfold q_st at h
  split at h
  rotate_left
  all_goals first | exact False.elim h | skip
  rename_i s_e
  have h1 := onv_iff.1 h
  clear h
  obtain ⟨s, hd_s, h⟩ := h1
  obtain ⟨b_s, i_s, k_s, rfl, hat_s, htx_s⟩ := eSi_at hd_s
  have hE := soundE_cons impl_areSightings_s (soundE_cons strconv_Itoa_s (soundE_nil (P := Tryz.prog)))
  refine acalls_fn impl_SightingText_k hE ⟨by simp, fun hwf => ?_⟩
  obtain ⟨hsr, hsp, hst, hss, hsk⟩ := hs_of hwf
  have hb_s : b_s < H.n := (hwf b_s k_s hat_s.blk).1
  have hne_s : (b_s = H.n) = False := eq_false (by omega)
  have hne1_s : ∀ i, (b_s = H.n + i) = False := fun i => eq_false (by omega)
  have hne2_s := ne2_of (a := b_s) (b := H.n) (by omega)
  have hmx_s : s.traits.length ≤ 9223372036854775807 := by have h1 := (hwf b_s k_s hat_s.blk).2.2; have h2 := hat_s.len; omega
  obtain ⟨hI, h⟩ := h
  by_cases hv : isSi s = true
  rotate_left
  · simp (config := {contextual := true, implicitDefEqProofs := false, maxSteps := 2000000}) [-Int.not_le, -Int.not_lt, argsF, impl_SightingText_c, hat_s.blk, hat_s.esz, hat_s.len, hat_s.els, hne_s, hne1_s, hne2_s, htx_s, hsr, hsp, hst, hss, hsk, hv, areSi_one]
    simp only [stRes, hv, if_false, reduceCtorEq] at h
    (refine Out.plain hwf ?_ rfl ?_; (repeat first | exact Sub.refl _ | refine Sub.push hwf ?_ _ | refine Sub.set hwf ?_ (by first | exact Nat.le_refl _ | omega | (simp only [push_n, set_n, kill_n]; omega)) _ | refine Sub.kill hwf ?_ (by first | exact Nat.le_refl _ | omega | (simp only [push_n, set_n, kill_n]; omega)))); exact h
  obtain ⟨v1, v2, v3, v4, v5, v6, v7⟩ := isSi_b hv
  have l0 := numT_len19 (n := s.id) (by omega) (by omega)
  have p0 : 0 ≤ s.id := by omega
  have r0 : s.id ≤ 9223372036854775807 := by omega
  have l1 := numT_len19 (n := s.year) (by omega) (by omega)
  have p1 : 0 ≤ s.year := by omega
  have r1 : s.year ≤ 9223372036854775807 := by omega
  simp only [stRes, stTxt, hv, if_true] at h
  have hwfB : ((H.push (boxS b_s i_s s)).push (boxS b_s i_s s)).WF := WF.push (WF.push hwf (by simp [boxS, AC.okR, hb_s]) (by simp [boxS])) (by simp [boxS, AC.okR]; omega) (by simp [boxS])
  have hbs1 : b_s < H.n + 1 := by omega
  have hbs2 : b_s < H.n + 1 + 1 := by omega
  simp (config := {contextual := true, implicitDefEqProofs := false, maxSteps := 2000000}) [-Int.not_le, -Int.not_lt, argsF, impl_SightingText_c, hat_s.blk, hat_s.esz, hat_s.len, hat_s.els, hne_s, hne1_s, hne2_s, htx_s, hsr, hsp, hst, hss, hsk, hv, areSi_one, hI, p0, r0, p1, r1]
  repeat (refine ⟨by omega, ?_⟩)
  have e0 : numT s.id ++ 32 :: (s.town ++ 32 :: numT s.year) = numT s.id ++ [32] ++ s.town ++ [32] ++ numT s.year := by simp
  rw [e0]
  generalize hT : numT s.id ++ [32] ++ s.town ++ [32] ++ numT s.year = T0 at h
  have hTl : T0.length ≤ 50 := by rw [← hT]; simp only [List.length_append, List.length_cons, List.length_nil]; omega
  refine aloop_list s.traits (fun j (o : List UInt8) => [(4, .c (.str (o))), (24, .c (.sl b_s i_s s.traits.length)), (25, .c (.int .i64 s.traits.length)), (26, .c (.int .i64 (j)))]) (fun j (o : List UInt8) => (H.push (boxS b_s i_s s)).push (boxS b_s i_s s)) (fun j l (o : List UInt8) => o.length ≤ 50 + 30 * j ∧ stGo l o = stGo s.traits T0) hE _ T0 ⟨by show T0.length ≤ 50 + 30 * 0; omega, rfl⟩ (Weak.since (H := (H.push (boxS b_s i_s s)).push (boxS b_s i_s s)) (by simp only [push_n]; omega) hwfB (.refl _) (by simp [frOk, AV.okR, AV.ok1, AC.okR, AV.ren, AV.ren1, AC.ren, AFrame.get, pl1_old, *]; first | done | rfl | omega)) (fun j o hlt hi => ?_) fun o hi => ?_
  · obtain ⟨hi0, hi⟩ := hi
    have hj1 := idx_lt hlt
    have w1 : IntKind.i64.wrap ((j : Int) + 1) = (j : Int) + 1 := wrap_id (by omega) (by omega)
    have et := hat_s.get hlt
    have hvt := v7 _ (List.getElem_mem hlt)
    have lt := numT_len19 (n := s.traits[j]) (by omega) (by omega)
    have pt : 0 ≤ s.traits[j] := Int.le_trans (by decide) hvt.1
    have rt : s.traits[j] ≤ 9223372036854775807 := Int.le_trans hvt.2 (by decide)
    simp (config := {contextual := true, implicitDefEqProofs := false, maxSteps := 2000000}) [-Int.not_le, -Int.not_lt, argsF, impl_SightingText_l0, boxS, hat_s.blk, hat_s.esz, hat_s.len, hat_s.els, hne_s, hne1_s, hne2_s, et, hj1, hlt, w1, hI, pt, rt]
    simp only [stGo] at hi
    refine ⟨by omega, by omega, ?_⟩
    exact ⟨o ++ 32 :: 35 :: numT s.traits[j], ⟨by simp only [List.length_append, List.length_cons]; omega, by simpa using hi⟩, .since (by simp only [push_n]; omega) hwfB (.refl _) (by simp [frOk, AV.okR, AV.ok1, AC.okR, AV.ren, AV.ren1, AC.ren, AFrame.get, pl1_old, *]; first | done | rfl | omega)⟩
  · obtain ⟨hi0, hi⟩ := hi
    simp only [stGo] at hi
    simp (config := {contextual := true, implicitDefEqProofs := false, maxSteps := 2000000}) [-Int.not_le, -Int.not_lt, argsF, impl_SightingText_l0, boxS, hat_s.blk, hat_s.esz, hat_s.len, hat_s.els, hne_s, hne1_s, hne2_s]
    rw [← hi] at h
    (refine Out.plain hwf ?_ rfl ?_; (repeat first | exact Sub.refl _ | refine Sub.push hwf ?_ _ | refine Sub.set hwf ?_ (by first | exact Nat.le_refl _ | omega | (simp only [push_n, set_n, kill_n]; omega)) _ | refine Sub.kill hwf ?_ (by first | exact Nat.le_refl _ | omega | (simp only [push_n, set_n, kill_n]; omega)))); exact h

theorem spec_SightingText_s : Sound Tryz.prog 25 q_st := by
  intro args H K h
  unfold q_st at h
  split at h
  rotate_left
  all_goals first | exact False.elim h | skip
  rename_i s_e
  have h1 := onv_iff.1 h
  clear h
  obtain ⟨s, hd_s, h⟩ := h1
  obtain ⟨b_s, i_s, k_s, rfl, hat_s, htx_s⟩ := eSi_at hd_s
  have hE := soundE_cons spec_l13One_s (soundE_cons spec_l1Num_s (soundE_nil (P := Tryz.prog)))
  refine acalls_fn spec_SightingText_k hE ⟨by simp, fun hwf => ?_⟩
  obtain ⟨hsr, hsp, hst, hss, hsk⟩ := hs_of hwf
  have hb_s : b_s < H.n := (hwf b_s k_s hat_s.blk).1
  have hne_s : (b_s = H.n) = False := eq_false (by omega)
  have hne1_s : ∀ i, (b_s = H.n + i) = False := fun i => eq_false (by omega)
  have hne2_s := ne2_of (a := b_s) (b := H.n) (by omega)
  have hmx_s : s.traits.length ≤ 9223372036854775807 := by have h1 := (hwf b_s k_s hat_s.blk).2.2; have h2 := hat_s.len; omega
  obtain ⟨hI, h⟩ := h
  by_cases hv : isSi s = true
  rotate_left
  · simp (config := {contextual := true, implicitDefEqProofs := false, maxSteps := 2000000}) [-Int.not_le, -Int.not_lt, argsF, spec_SightingText_c, hat_s.blk, hat_s.esz, hat_s.len, hat_s.els, hne_s, hne1_s, hne2_s, htx_s, hsr, hsp, hst, hss, hsk, hv, areSi_one]
    simp only [stRes, hv, if_false, reduceCtorEq] at h
    (refine Out.plain hwf ?_ rfl ?_; (repeat first | exact Sub.refl _ | refine Sub.push hwf ?_ _ | refine Sub.set hwf ?_ (by first | exact Nat.le_refl _ | omega | (simp only [push_n, set_n, kill_n]; omega)) _ | refine Sub.kill hwf ?_ (by first | exact Nat.le_refl _ | omega | (simp only [push_n, set_n, kill_n]; omega)))); exact h
  obtain ⟨v1, v2, v3, v4, v5, v6, v7⟩ := isSi_b hv
  have l0 := numT_len19 (n := s.id) (by omega) (by omega)
  have p0 : 0 ≤ s.id := by omega
  have r0 : s.id ≤ 9223372036854775807 := by omega
  have l1 := numT_len19 (n := s.year) (by omega) (by omega)
  have p1 : 0 ≤ s.year := by omega
  have r1 : s.year ≤ 9223372036854775807 := by omega
  simp only [stRes, stTxt, hv, if_true] at h
  have hwfB : (H.push (boxS b_s i_s s)).WF := WF.push hwf (by simp [boxS, AC.okR, hb_s]) (by simp [boxS])
  have hbs1 : b_s < H.n + 1 := by omega
  have hbs2 : b_s < H.n + 1 + 1 := by omega
  simp (config := {contextual := true, implicitDefEqProofs := false, maxSteps := 2000000}) [-Int.not_le, -Int.not_lt, argsF, spec_SightingText_c, hat_s.blk, hat_s.esz, hat_s.len, hat_s.els, hne_s, hne1_s, hne2_s, htx_s, hsr, hsp, hst, hss, hsk, hv, areSi_one, hI, p0, r0, p1, r1]
  repeat (refine ⟨by omega, ?_⟩)
  have e0 : numT s.id ++ 32 :: (s.town ++ 32 :: numT s.year) = numT s.id ++ [32] ++ s.town ++ [32] ++ numT s.year := by simp
  rw [e0]
  generalize hT : numT s.id ++ [32] ++ s.town ++ [32] ++ numT s.year = T0 at h
  have hTl : T0.length ≤ 50 := by rw [← hT]; simp only [List.length_append, List.length_cons, List.length_nil]; omega
  refine aloop_list s.traits (fun j (o : List UInt8) => [(1, .c (.ptr H.n 0 0)), (4, .c (.str (o))), (5, .c (.int .i64 (j)))]) (fun j (o : List UInt8) => H.push (boxS b_s i_s s)) (fun j l (o : List UInt8) => o.length ≤ 50 + 30 * j ∧ stGo l o = stGo s.traits T0) hE _ T0 ⟨by show T0.length ≤ 50 + 30 * 0; omega, rfl⟩ (Weak.since (H := H.push (boxS b_s i_s s)) (by simp only [push_n]; omega) hwfB (.refl _) (by simp [frOk, AV.okR, AV.ok1, AC.okR, AV.ren, AV.ren1, AC.ren, AFrame.get, pl1_old, *]; first | done | rfl | omega)) (fun j o hlt hi => ?_) fun o hi => ?_
  · obtain ⟨hi0, hi⟩ := hi
    have hj1 := idx_lt hlt
    have w1 : IntKind.i64.wrap ((j : Int) + 1) = (j : Int) + 1 := wrap_id (by omega) (by omega)
    have et := hat_s.get hlt
    have hvt := v7 _ (List.getElem_mem hlt)
    have lt := numT_len19 (n := s.traits[j]) (by omega) (by omega)
    have pt : 0 ≤ s.traits[j] := Int.le_trans (by decide) hvt.1
    have rt : s.traits[j] ≤ 9223372036854775807 := Int.le_trans hvt.2 (by decide)
    simp (config := {contextual := true, implicitDefEqProofs := false, maxSteps := 2000000}) [-Int.not_le, -Int.not_lt, argsF, spec_SightingText_l0, boxS, hat_s.blk, hat_s.esz, hat_s.len, hat_s.els, hne_s, hne1_s, hne2_s, et, hj1, hlt, w1, hI, pt, rt]
    simp only [stGo] at hi
    refine ⟨by omega, by omega, ?_⟩
    exact ⟨o ++ 32 :: 35 :: numT s.traits[j], ⟨by simp only [List.length_append, List.length_cons]; omega, by simpa using hi⟩, .since (by simp only [push_n]; omega) hwfB (.refl _) (by simp [frOk, AV.okR, AV.ok1, AC.okR, AV.ren, AV.ren1, AC.ren, AFrame.get, pl1_old, *]; first | done | rfl | omega)⟩
  · obtain ⟨hi0, hi⟩ := hi
    simp only [stGo] at hi
    simp (config := {contextual := true, implicitDefEqProofs := false, maxSteps := 2000000}) [-Int.not_le, -Int.not_lt, argsF, spec_SightingText_l0, boxS, hat_s.blk, hat_s.esz, hat_s.len, hat_s.els, hne_s, hne1_s, hne2_s]
    rw [← hi] at h
    (refine Out.plain hwf ?_ rfl ?_; (repeat first | exact Sub.refl _ | refine Sub.push hwf ?_ _ | refine Sub.set hwf ?_ (by first | exact Nat.le_refl _ | omega | (simp only [push_n, set_n, kill_n]; omega)) _ | refine Sub.kill hwf ?_ (by first | exact Nat.le_refl _ | omega | (simp only [push_n, set_n, kill_n]; omega)))); exact h

end Go.Proofs.YtafenginfojcmaaGreatDoor
