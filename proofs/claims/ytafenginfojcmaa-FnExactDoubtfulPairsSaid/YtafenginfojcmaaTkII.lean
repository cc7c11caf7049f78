/- The laws' helpers: rows of rows of numbers. -/
import Derived.Test.YtafenginfojcmaaSiM
set_option maxRecDepth 8000
set_option linter.unusedSimpArgs false
set_option linter.unusedVariables false
namespace Go.Proofs.Ytafenginfojcmaa
open Go Go.RowKit

set_option maxHeartbeats 4000000
def iiK (cs : List Nat) (rows : List (List Int)) : ABlk := ⟨32, 1, false, false, List.zipWith (fun c g => [AC.sl c 0 g.length]) cs rows⟩
@[simp] theorem iiK_els (cs : List Nat) (rows : List (List Int)) : (iiK cs rows).els = List.zipWith (fun c g => [AC.sl c 0 g.length]) cs rows := rfl
@[simp] theorem iiK_esz (cs : List Nat) (rows : List (List Int)) : (iiK cs rows).esz = 1 := rfl
@[simp] theorem iiK_ro (cs : List Nat) (rows : List (List Int)) : (iiK cs rows).ro = false := rfl
@[simp] theorem iiK_fz (cs : List Nat) (rows : List (List Int)) : (iiK cs rows).fz = false := rfl
@[simp] theorem iiK_ty (cs : List Nat) (rows : List (List Int)) : (iiK cs rows).ty = 32 := rfl
theorem iiK_add {cs : List Nat} {rows : List (List Int)} {b m : Nat} {C : List Int} (hl : cs.length = rows.length) (hm : m = C.length) : (⟨32, 1, false, false, List.take rows.length (List.zipWith (fun c g => [AC.sl c 0 g.length]) cs rows) ++ [[AC.sl b 0 m]]⟩ : ABlk) = iiK (cs ++ [b]) (rows ++ [C]) := by
  subst hm
  rw [List.take_of_length_le (by simp [hl])]
  simp [iiK, List.zipWith_append hl]
/-- rows of one's own, row by row -/
structure IIRows (H : AHeap) (b : Nat) (cs : List Nat) (rows : List (List Int)) : Prop where
  len : cs.length = rows.length
  nd : cs.Nodup
  nb : b ∉ cs
  blk : H.b b = some (iiK cs rows)
  row : ∀ (j c : Nat) (g : List Int), cs[j]? = some c → rows[j]? = some g → H.b c = some (rowK eI 3 g)
theorem IIRows.sub {H H' : AHeap} {b : Nat} {cs : List Nat} {rows : List (List Int)} (h : IIRows H b cs rows) (hs : Sub H H') : IIRows H' b cs rows :=
  ⟨h.len, h.nd, h.nb, hs.1.2 _ _ h.blk, fun j c p hc hp => hs.1.2 _ _ (h.row j c p hc hp)⟩
theorem IIRows.out {H H' : AHeap} {b lo hi : Nat} {cs : List Nat} {rows : List (List Int)} (h : IIRows H b cs rows) (hs : SubOut lo hi H H') (hb : ∀ c ∈ b :: cs, c < lo ∨ hi ≤ c) : IIRows H' b cs rows :=
  ⟨h.len, h.nd, h.nb, (hs.out _ (hb _ (by simp))).trans h.blk, fun j c p hc hp => (hs.out _ (hb _ (by simp [List.mem_of_getElem? hc]))).trans (h.row j c p hc hp)⟩
theorem IIRows.at {H : AHeap} {b : Nat} {cs : List Nat} {rows : List (List Int)} (h : IIRows H b cs rows) : eII.At H b 0 (iiK cs rows) rows := by
  refine ⟨h.blk, rfl, by simp [h.len], ?_⟩
  rw [iiK_els, List.drop_zero, List.take_of_length_le (by simp [h.len])]
  refine eII.decL_zip (fun c (g : List Int) => [AC.sl c 0 g.length]) cs rows h.len fun j c g hc hg => ?_
  have h0 := h.row j c g hc hg
  have e : List.take g.length (List.map eI.cells g) = List.map eI.cells g := List.take_of_length_le (by simp)
  simp [eII, rdI, h0, e]
theorem IIRows.get {H : AHeap} {b : Nat} {cs : List Nat} {rows : List (List Int)} (h : IIRows H b cs rows) {j : Nat} (hj : j < rows.length) : ∃ c, cs[j]? = some c ∧ (List.zipWith (fun c (g : List Int) => [AC.sl c 0 g.length]) cs rows)[j]? = some [AC.sl c 0 rows[j].length] ∧ H.b c = some (rowK eI 3 rows[j]) ∧ c ≠ b ∧ c ∈ cs := by
  have hjc : j < cs.length := by rw [h.len]; exact hj
  have h1 : cs[j]? = some cs[j] := List.getElem?_eq_getElem hjc
  have h2 : rows[j]? = some rows[j] := List.getElem?_eq_getElem hj
  exact ⟨cs[j], h1, by simp [List.getElem?_zipWith, h1, h2], h.row j _ _ h1 h2, fun e => h.nb (e ▸ List.getElem_mem hjc), List.getElem_mem hjc⟩
theorem IIRows.bnd {H : AHeap} {b : Nat} {cs : List Nat} {rows : List (List Int)} (h : IIRows H b cs rows) (hw : H.WF) : ∀ c ∈ b :: cs, c < H.n := fun c hc => by
  rcases List.mem_cons.1 hc with rfl | hc
  · exact (hw _ _ h.blk).1
  · obtain ⟨j, hj⟩ := List.getElem?_of_mem hc
    have hjl := (List.getElem?_eq_some_iff.1 hj).1
    have hjr : j < rows.length := by have := h.len; omega
    exact (hw _ _ (h.row j c rows[j] hj (List.getElem?_eq_getElem hjr))).1
/-- one more row -/
theorem IIRows.add {H : AHeap} {b : Nat} {cs : List Nat} {rows : List (List Int)} (h : IIRows H b cs rows) (hw : H.WF) (ids : List Int) (K : ABlk) :
    IIRows ((((H.push (rowK eI 3 ids)).push K).kill b).push (iiK (cs ++ [H.n]) (rows ++ [ids]))) (H.n + 1 + 1) (cs ++ [H.n]) (rows ++ [ids]) := by
  have hb := h.bnd hw
  have hb0 := hb b (by simp)
  have hc0 : ∀ c ∈ cs, c < H.n := fun c hc => hb c (by simp [hc])
  refine ⟨by simp [h.len], List.nodup_append.2 ⟨h.nd, by simp, fun x hx y hy e => by rw [List.mem_singleton.1 hy] at e; have := hc0 x hx; omega⟩, fun hc => ?_, by simp [push_b], fun j c g hc hg => ?_⟩
  · rcases List.mem_append.1 hc with hc | hc
    · have := hc0 _ hc; omega
    · have := List.mem_singleton.1 hc; omega
  · rcases Nat.lt_or_ge j cs.length with hj | hj
    · rw [List.getElem?_append_left hj] at hc
      rw [List.getElem?_append_left (by have := h.len; omega)] at hg
      have hcm := List.mem_of_getElem? hc
      have h1 := hc0 c hcm
      have h2 : c ≠ b := fun e => h.nb (e ▸ hcm)
      rw [push_b, if_neg (by simp only [kill_n, push_n]; omega), kill_b, if_neg h2, push_b, if_neg (by simp only [push_n]; omega), push_b, if_neg (by omega)]
      exact h.row j c g hc hg
    · have hj2 : j = cs.length := by have := (List.getElem?_eq_some_iff.1 hc).1; simp at this; omega
      subst hj2
      rw [List.getElem?_append_right (Nat.le_refl _)] at hc
      rw [List.getElem?_append_right (by have := h.len; omega)] at hg
      simp [h.len] at hc hg
      subst hc hg
      rw [push_b, if_neg (by simp only [kill_n, push_n]; omega), kill_b, if_neg (by omega), push_b, if_neg (by simp only [push_n]; omega), push_b, if_pos rfl]
theorem eII_at3 {H : AHeap} {e : List AC} {l : List Int} (h : eII.dec H e = some l) : ∃ b i k, e = [.sl b i l.length] ∧ eI.At H b i k l ∧ True := by
  simp only [eII] at h
  split at h
  · obtain ⟨b, i, k, rfl, h2⟩ := rdI_at h
    exact ⟨b, i, k, rfl, h2, trivial⟩
  · cases h
def iiTot (rows : List (List Int)) : Nat := (rows.map List.length).sum
def mksII : List (List Int) → Int → List (List Int)
  | [], _ => []
  | g :: r, k => mksInt g.length k :: mksII r (k + (g.length : Int))
def endII : List (List Int) → Int → Int
  | [], k => k
  | g :: r, k => endII r (k + (g.length : Int))
theorem endII_eq : ∀ (rows : List (List Int)) (k : Int), endII rows k = k + (iiTot rows : Int)
  | [], k => by simp [endII, iiTot]
  | g :: r, k => by
    rw [endII, endII_eq r]
    simp only [iiTot, List.map_cons, List.sum_cons]
    push_cast
    omega
@[simp] theorem mksII_len : ∀ (rows : List (List Int)) (k : Int), (mksII rows k).length = rows.length
  | [], _ => rfl
  | g :: r, k => by simp [mksII, mksII_len r]
def heldII : List (List Int) → Int → Int
  | [], k => k
  | g :: r, k => if heldInt g k < 0 then -1 else heldII r (heldInt g k)
theorem heldII_mks : ∀ (rows : List (List Int)) (k : Int), 0 ≤ k → heldII (mksII rows k) k = endII rows k
  | [], k, _ => rfl
  | g :: r, k, h => by
    rw [mksII, heldII, heldInt_mks, if_neg (by omega), heldII_mks r _ (by omega), endII]
theorem iiK_same {cs : List Nat} {d r : List (List Int)} {p p' : List Int} (h : p'.length = p.length) : iiK cs (d ++ p' :: r) = iiK cs (d ++ p :: r) := by
  unfold iiK
  congr 1
  apply List.ext_getElem?
  intro i
  simp only [List.getElem?_zipWith]
  rcases Nat.lt_trichotomy i d.length with h1 | h1 | h1
  · rw [List.getElem?_append_left h1, List.getElem?_append_left h1]
  · subst h1
    rw [List.getElem?_append_right (Nat.le_refl _), List.getElem?_append_right (Nat.le_refl _)]
    cases cs[d.length]? <;> simp [h]
  · rw [List.getElem?_append_right (by omega), List.getElem?_append_right (by omega)]
    cases hm : i - d.length with
    | zero => omega
    | succ m => rfl
theorem IIRows.mark {H : AHeap} {b c : Nat} {cs : List Nat} {d r : List (List Int)} {p : List Int} (h : IIRows H b cs (d ++ p :: r)) (hc : cs[d.length]? = some c) {p' : List Int} (hp : p'.length = p.length) :
    IIRows (H.set c (rowK eI 3 p')) b cs (d ++ p' :: r) := by
  have hcb : b ≠ c := fun e => h.nb (e ▸ List.mem_of_getElem? hc)
  have hl := h.len
  simp only [List.length_append, List.length_cons] at hl
  refine ⟨by simp [hl], h.nd, h.nb, ?_, fun j c' q hj hq => ?_⟩
  · rw [set_b, if_neg hcb, iiK_same hp]
    exact h.blk
  · rcases Nat.lt_trichotomy j d.length with h1 | h1 | h1
    · have hne : c' ≠ c := fun e => by
        subst e
        have := (List.getElem?_inj (i := j) (j := d.length) (by omega) h.nd).1 (hj.trans hc.symm)
        omega
      rw [set_b, if_neg hne]
      refine h.row j c' q hj ?_
      rw [List.getElem?_append_left h1] at hq ⊢
      exact hq
    · subst h1
      rw [hc] at hj
      cases hj
      rw [set_b, if_pos rfl]
      rw [List.getElem?_append_right (Nat.le_refl _)] at hq
      simp at hq
      rw [hq]
    · have hne : c' ≠ c := fun e => by
        subst e
        have h3 := (List.getElem?_eq_some_iff.1 hj).1
        have := (List.getElem?_inj (i := j) (j := d.length) h3 h.nd).1 (hj.trans hc.symm)
        omega
      rw [set_b, if_neg hne]
      refine h.row j c' q hj ?_
      rw [List.getElem?_append_right (by omega)] at hq ⊢
      cases hm : j - d.length with
      | zero => omega
      | succ m => rw [hm] at hq; exact hq
def q_markII : Con := fun args H K => match args with
  | [.c (.sl b i n), .c (.int .i64 k)] => Stop (∃ lo hi cs rows, i = 0 ∧ n = rows.length ∧ IIRows H b cs rows ∧ (∀ c ∈ b :: cs, lo ≤ c ∧ c < hi) ∧ rows.length ≤ 1048576 ∧ (∀ p ∈ rows, p.length ≤ 1048576) ∧ 0 < k ∧ endII rows k ≤ 1099511627000 ∧ ∀ H', H'.WF → SubOut lo hi H H' → IIRows H' b cs (mksII rows k) → K (.c (.int .i64 (endII rows k))) H') ()
  | _ => False
@[simp ↓] theorem q_markII_eq (b i n : Nat) (k : Int) (H : AHeap) (K : AV → AHeap → Prop) : q_markII [.c (.sl b i n), .c (.int .i64 k)] H K = Stop (∃ lo hi cs rows, i = 0 ∧ n = rows.length ∧ IIRows H b cs rows ∧ (∀ c ∈ b :: cs, lo ≤ c ∧ c < hi) ∧ rows.length ≤ 1048576 ∧ (∀ p ∈ rows, p.length ≤ 1048576) ∧ 0 < k ∧ endII rows k ≤ 1099511627000 ∧ ∀ H', H'.WF → SubOut lo hi H H' → IIRows H' b cs (mksII rows k) → K (.c (.int .i64 (endII rows k))) H') () := rfl
structure MkII where
  H : AHeap
  d : List (List Int)
  k : Int
theorem laws_markIntSS_s : Sound Try.prog 28 q_markII := by
  intro args H K h
  unfold q_markII at h
  split at h
  rotate_left
  all_goals first | exact False.elim h | skip
  rename_i b i n k
  obtain ⟨lo, hi, cs, ps, rfl, rfl, hrows, hbd, hl, hl2, hk0, hk1, h⟩ := h.go
  have hE := soundE_cons laws_markIntS_s (soundE_nil (P := Try.prog))
  refine acalls_fn laws_markIntSS_k hE ⟨by simp, fun hwf => ?_⟩
  have hb : b < H.n := (hwf _ _ hrows.blk).1
  simp (config := {contextual := true, implicitDefEqProofs := false, maxSteps := 2000000}) [-Int.not_le, -Int.not_lt, argsF, laws_markIntSS_c]
  refine aloop_heap (X := MkII) (fun x => [(0, .c (.sl (b) (0) (ps.length))), (1, .c (.int .i64 (x.k))), (5, .c (.int .i64 ((x.d.length : Int))))]) (fun x => x.H) (fun x => x.d.length ≤ ps.length ∧ IIRows x.H b cs (x.d ++ ps.drop x.d.length) ∧ x.d ++ mksII (ps.drop x.d.length) x.k = mksII ps k ∧ endII (ps.drop x.d.length) x.k = endII ps k ∧ SubOut lo hi H x.H ∧ 0 < x.k) (fun x => ps.length - x.d.length) hE _ ⟨H, [], k⟩ ⟨Nat.zero_le _, by simpa using hrows, by simp, by simp, ⟨rfl, rfl, fun _ _ => rfl⟩, hk0⟩ (fun hw0 => .since (Nat.le_refl _) hw0 (.refl _) (by simp [frOk, AV.okR, AV.ok1, AC.okR, AV.ren, AV.ren1, AC.ren, AFrame.get, pl1_old, *]; first | done | rfl | omega)) (fun x hx hwx => ?_)
  obtain ⟨hx1, hx2, hx3, hx4, hx5, hx6⟩ := hx
  have hn := hx5.n
  rcases Nat.lt_or_ge x.d.length ps.length with hlt | hge
  rotate_left
  · have e : x.d.length = ps.length := by omega
    rw [e, List.drop_length] at hx2 hx3 hx4
    simp only [mksII, endII, List.append_nil] at hx2 hx3 hx4
    have hlt' : ¬ ((x.d.length : Int) < (ps.length : Int)) := by omega
    simp (config := {contextual := true, implicitDefEqProofs := false, maxSteps := 2000000}) [-Int.not_le, -Int.not_lt, argsF, laws_markIntSS_l0, hlt']
    rw [hx3] at hx2
    rw [hx4]
    exact Out.whole (by omega) (by simp [frOk, AV.okR, AV.ok1, AC.okR, AV.ren, AV.ren1, AC.ren, AFrame.get, pl1_old, *]; first | done | rfl | omega) fun hw => h _ hw hx5 hx2
  · obtain ⟨p, r, hpr⟩ : ∃ p r, ps.drop x.d.length = p :: r := ⟨_, _, List.drop_eq_getElem_cons hlt⟩
    have hr : ps.drop (x.d.length + 1) = r := by rw [← List.drop_drop, hpr]; rfl
    have hpm : p ∈ ps := List.mem_of_mem_drop (by rw [hpr]; simp)
    have hlr : ps.length = x.d.length + (r.length + 1) := by
      have := congrArg List.length hpr
      simp only [List.length_drop, List.length_cons] at this
      omega
    rw [hpr] at hx2 hx3 hx4
    simp only [mksII, endII] at hx3 hx4
    have hj : x.d.length < (x.d ++ p :: r).length := by simp
    obtain ⟨c, hc1, hc2, hc3, hc4, hc5⟩ := hx2.get hj
    have eg : (x.d ++ p :: r)[x.d.length] = p := by simp
    rw [eg] at hc2 hc3
    have hcx : c < x.H.n := (hwx _ _ hc3).1
    have hlz : (List.zipWith (fun c (g : List Int) => [AC.sl c 0 g.length]) cs (x.d ++ p :: r)).length = ps.length := by
      have := hx2.len
      simp only [List.length_zipWith, this, Nat.min_self]
      simp
      omega
    have hblk := hx2.blk
    unfold iiK at hblk
    have htr := hl2 _ hpm
    have hmark := hx2.mark hc1 (p' := mksInt p.length x.k) (mksInt_len _ _)
    have hen := endII_eq r (x.k + (p.length : Int))
    rw [hx4] at hen
    have hj1 := idx_lt hlt
    have w0 : IntKind.i64.wrap ((x.d.length : Int) + 1) = (x.d.length : Int) + 1 := wrap_id (by omega) (by omega)
    have g3 : 0 ≤ x.k := by omega
    have g4 : x.k ≤ 1099511627776 := by omega
    generalize List.zipWith (fun c (g : List Int) => [AC.sl c 0 g.length]) cs (x.d ++ p :: r) = Z at hblk hlz hc2
    have eg2 : ∀ h, Z[x.d.length]'h = [AC.sl c 0 p.length] := fun h => by rw [List.getElem?_eq_getElem h] at hc2; simpa using hc2
    simp (config := {contextual := true, implicitDefEqProofs := false, maxSteps := 2000000}) [-Int.not_le, -Int.not_lt, argsF, laws_markIntSS_l0, eg2, hj1, hlt, w0, g3, g4, hblk, hlz, hc3, htr]
    have hd2 : (x.d ++ [mksInt p.length x.k]).length = x.d.length + 1 := by simp
    have hdr : ps.drop (x.d ++ [mksInt p.length x.k]).length = r := by rw [hd2, hr]
    refine ⟨fun hw => ⟨⟨x.H.set c (rowK eI 3 (mksInt p.length x.k)), x.d ++ [mksInt p.length x.k], x.k + (p.length : Int)⟩, ⟨?_, ?_, ?_, ?_, ?_, ?_⟩, ?_, .since ?_ hw (.refl _) ?_⟩⟩
    · show (x.d ++ [mksInt p.length x.k]).length ≤ _
      omega
    · show IIRows _ b cs ((x.d ++ [mksInt p.length x.k]) ++ ps.drop (x.d ++ [mksInt p.length x.k]).length)
      rw [hdr, List.append_assoc]
      exact hmark
    · show (x.d ++ [mksInt p.length x.k]) ++ mksII (ps.drop (x.d ++ [mksInt p.length x.k]).length) _ = _
      rw [hdr, List.append_assoc]
      exact hx3
    · show endII (ps.drop (x.d ++ [mksInt p.length x.k]).length) _ = _
      rw [hdr]
      exact hx4
    · refine ⟨hx5.n, hx5.I, fun c' hc' => ?_⟩
      have b2 := hbd c (by simp [hc5])
      rw [← hx5.out c' hc', set_b, if_neg (by omega)]
    · show 0 < x.k + (p.length : Int)
      omega
    · show ps.length - (x.d ++ [mksInt p.length x.k]).length < _
      omega
    · show H.n ≤ x.H.n
      omega
    · rw [hd2]
      exact (by simp [frOk, AV.okR, AV.ok1, AC.okR, AV.ren, AV.ren1, AC.ren, AFrame.get, pl1_old, *]; first | done | rfl | omega)

def q_eqII : Con := fun args H K => match args with
  | [ps_v, rs_v] => eII.rd H (fun ps => eII.rd H (fun rs => K (.c (.bool (decide (ps = rs)))) H) rs_v) ps_v
  | _ => False
@[simp ↓] theorem q_eqII_eq (ps_v : AV) (rs_v : AV) (H : AHeap) (K : AV → AHeap → Prop) : q_eqII [ps_v, rs_v] H K = (eII.rd H (fun ps => eII.rd H (fun rs => K (.c (.bool (decide (ps = rs)))) H) rs_v) ps_v) := rfl

theorem laws_eqIntSS_s : Sound Try.prog 25 q_eqII := by
  intro args H K h
  unfold q_eqII at h
  split at h
  rotate_left
  all_goals first | exact False.elim h | skip
  rename_i ps_v rs_v
  have h1 := EncH.rd_at h
  clear h
  obtain ⟨b_ps, i_ps, k_ps, ps, rfl, hat_ps, h⟩ := h1
  have h1 := EncH.rd_at h
  clear h
  obtain ⟨b_rs, i_rs, k_rs, rs, rfl, hat_rs, h⟩ := h1
  have hE := soundE_cons laws_eqIntS_s (soundE_nil (P := Try.prog))
  refine acalls_fn laws_eqIntSS_k hE ⟨by simp, fun hwf => ?_⟩
  have hsr : SubE H H := SubE.refl H
  have hsp : ∀ H' k, H.n ≤ H'.n → SubE H H' → SubE H (H'.push k) := fun H' k hn hs => SubE.push hwf hn hs k
  have hst : ∀ H', SubE H H' → SubE H H'.toRo := fun H' hs => hs.toRo
  have hss : ∀ H' i k, H.n ≤ i → SubE H H' → SubE H (H'.set i k) := fun H' i k hn hs => SubE.set hwf hn hs k
  have hsk : ∀ H' i, H.n ≤ i → SubE H H' → SubE H (H'.kill i) := fun H' i hn hs => SubE.kill hwf hn hs
  have hon_ps := hat_ps.on
  have hon_rs := hat_rs.on
  have hb_ps : b_ps < H.n := (hwf b_ps k_ps hat_ps.blk).1
  have hne_ps : (b_ps = H.n) = False := eq_false (by omega)
  have hne1_ps : ∀ i, (b_ps = H.n + i) = False := fun i => eq_false (by omega)
  have hne2_ps : (b_ps = H.n + 1 + 1) = False ∧ (b_ps = H.n + 1 + 1 + 1) = False ∧ (b_ps = H.n + 1 + 1 + 1 + 1) = False ∧ (b_ps = H.n + 1 + 1 + 1 + 1 + 1) = False ∧ (b_ps = H.n + 1 + 1 + 1 + 1 + 1 + 1) = False ∧ (b_ps = H.n + 1 + 1 + 1 + 1 + 1 + 1 + 1) = False ∧ (b_ps = H.n + 1 + 1 + 1 + 1 + 1 + 1 + 1 + 1) = False ∧ (b_ps = H.n + 1 + 1 + 1 + 1 + 1 + 1 + 1 + 1 + 1) = False ∧ (b_ps = H.n + 1 + 1 + 1 + 1 + 1 + 1 + 1 + 1 + 1 + 1) = False ∧ (b_ps = H.n + 1 + 1 + 1 + 1 + 1 + 1 + 1 + 1 + 1 + 1 + 1) = False ∧ (b_ps = H.n + 1 + 1 + 1 + 1 + 1 + 1 + 1 + 1 + 1 + 1 + 1 + 1) = False := ⟨eq_false (by omega), eq_false (by omega), eq_false (by omega), eq_false (by omega), eq_false (by omega), eq_false (by omega), eq_false (by omega), eq_false (by omega), eq_false (by omega), eq_false (by omega), eq_false (by omega)⟩
  have hmx_ps : ps.length ≤ 9223372036854775807 := by have h1 := (hwf b_ps k_ps hat_ps.blk).2.2; have h2 := hat_ps.len; omega
  have hb_rs : b_rs < H.n := (hwf b_rs k_rs hat_rs.blk).1
  have hne_rs : (b_rs = H.n) = False := eq_false (by omega)
  have hne1_rs : ∀ i, (b_rs = H.n + i) = False := fun i => eq_false (by omega)
  have hne2_rs : (b_rs = H.n + 1 + 1) = False ∧ (b_rs = H.n + 1 + 1 + 1) = False ∧ (b_rs = H.n + 1 + 1 + 1 + 1) = False ∧ (b_rs = H.n + 1 + 1 + 1 + 1 + 1) = False ∧ (b_rs = H.n + 1 + 1 + 1 + 1 + 1 + 1) = False ∧ (b_rs = H.n + 1 + 1 + 1 + 1 + 1 + 1 + 1) = False ∧ (b_rs = H.n + 1 + 1 + 1 + 1 + 1 + 1 + 1 + 1) = False ∧ (b_rs = H.n + 1 + 1 + 1 + 1 + 1 + 1 + 1 + 1 + 1) = False ∧ (b_rs = H.n + 1 + 1 + 1 + 1 + 1 + 1 + 1 + 1 + 1 + 1) = False ∧ (b_rs = H.n + 1 + 1 + 1 + 1 + 1 + 1 + 1 + 1 + 1 + 1 + 1) = False ∧ (b_rs = H.n + 1 + 1 + 1 + 1 + 1 + 1 + 1 + 1 + 1 + 1 + 1 + 1) = False := ⟨eq_false (by omega), eq_false (by omega), eq_false (by omega), eq_false (by omega), eq_false (by omega), eq_false (by omega), eq_false (by omega), eq_false (by omega), eq_false (by omega), eq_false (by omega), eq_false (by omega)⟩
  have hmx_rs : rs.length ≤ 9223372036854775807 := by have h1 := (hwf b_rs k_rs hat_rs.blk).2.2; have h2 := hat_rs.len; omega
  simp (config := {contextual := true, implicitDefEqProofs := false, maxSteps := 60000}) [-Int.not_le, -Int.not_lt, argsF, laws_eqIntSS_c, hat_ps.blk, hat_ps.esz, hat_ps.len, hon_ps, hne_ps, hne1_ps, hne2_ps.1, hne2_ps.2.1, hne2_ps.2.2.1, hne2_ps.2.2.2.1, hne2_ps.2.2.2.2.1, hne2_ps.2.2.2.2.2.1, hne2_ps.2.2.2.2.2.2.1, hne2_ps.2.2.2.2.2.2.2.1, hne2_ps.2.2.2.2.2.2.2.2.1, hne2_ps.2.2.2.2.2.2.2.2.2.1, hne2_ps.2.2.2.2.2.2.2.2.2.2, hat_rs.blk, hat_rs.esz, hat_rs.len, hon_rs, hne_rs, hne1_rs, hne2_rs.1, hne2_rs.2.1, hne2_rs.2.2.1, hne2_rs.2.2.2.1, hne2_rs.2.2.2.2.1, hne2_rs.2.2.2.2.2.1, hne2_rs.2.2.2.2.2.2.1, hne2_rs.2.2.2.2.2.2.2.1, hne2_rs.2.2.2.2.2.2.2.2.1, hne2_rs.2.2.2.2.2.2.2.2.2.1, hne2_rs.2.2.2.2.2.2.2.2.2.2, hsr, hsp, hst, hss, hsk]
  refine ite_i (fun hlen => ?_) (fun hlen => ?_)
  · refine aloop_list ps (fun j _ => [(0, .c (.sl b_ps i_ps ps.length)), (1, .c (.sl b_rs i_rs rs.length)), (5, .c (.int .i64 ((j : Int))))]) (fun j _ => H) (fun j l _ => K (.c (.bool (decide (l = rs.drop j)))) H) hE _ () (by simpa using h) (.same hwf (by simp [frOk, AV.okR, AV.ok1, AC.okR, AV.ren, AV.ren1, AC.ren, AFrame.get, pl1_old, *]; first | done | rfl | omega)) (fun j _ hlt hi => ?_) fun _ hi => ?_
    · have hr : j < rs.length := by omega
      have hr1 := idx_lt hr
      have hj1 := idx_lt hlt
      have w1 : IntKind.i64.wrap ((j : Int) + 1) = (j : Int) + 1 := wrap_id (by omega) (by omega)
      rw [List.drop_eq_getElem_cons hr] at hi
      obtain ⟨ex_x, e_x, hd_x⟩ := hat_ps.get hlt
      obtain ⟨b_x, i_x, k_x, rfl, hat_x, htx_x⟩ := eII_at3 hd_x
      have hb_x : b_x < H.n := (hwf b_x k_x hat_x.blk).1
      have hne_x : (b_x = H.n) = False := eq_false (by omega)
      have hne1_x : ∀ i, (b_x = H.n + i) = False := fun i => eq_false (by omega)
      have hne2_x : (b_x = H.n + 1 + 1) = False ∧ (b_x = H.n + 1 + 1 + 1) = False ∧ (b_x = H.n + 1 + 1 + 1 + 1) = False ∧ (b_x = H.n + 1 + 1 + 1 + 1 + 1) = False ∧ (b_x = H.n + 1 + 1 + 1 + 1 + 1 + 1) = False ∧ (b_x = H.n + 1 + 1 + 1 + 1 + 1 + 1 + 1) = False ∧ (b_x = H.n + 1 + 1 + 1 + 1 + 1 + 1 + 1 + 1) = False ∧ (b_x = H.n + 1 + 1 + 1 + 1 + 1 + 1 + 1 + 1 + 1) = False ∧ (b_x = H.n + 1 + 1 + 1 + 1 + 1 + 1 + 1 + 1 + 1 + 1) = False ∧ (b_x = H.n + 1 + 1 + 1 + 1 + 1 + 1 + 1 + 1 + 1 + 1 + 1) = False ∧ (b_x = H.n + 1 + 1 + 1 + 1 + 1 + 1 + 1 + 1 + 1 + 1 + 1 + 1) = False := ⟨eq_false (by omega), eq_false (by omega), eq_false (by omega), eq_false (by omega), eq_false (by omega), eq_false (by omega), eq_false (by omega), eq_false (by omega), eq_false (by omega), eq_false (by omega), eq_false (by omega)⟩
      obtain ⟨ex_y, e_y, hd_y⟩ := hat_rs.get hr
      obtain ⟨b_y, i_y, k_y, rfl, hat_y, htx_y⟩ := eII_at3 hd_y
      have hb_y : b_y < H.n := (hwf b_y k_y hat_y.blk).1
      have hne_y : (b_y = H.n) = False := eq_false (by omega)
      have hne1_y : ∀ i, (b_y = H.n + i) = False := fun i => eq_false (by omega)
      have hne2_y : (b_y = H.n + 1 + 1) = False ∧ (b_y = H.n + 1 + 1 + 1) = False ∧ (b_y = H.n + 1 + 1 + 1 + 1) = False ∧ (b_y = H.n + 1 + 1 + 1 + 1 + 1) = False ∧ (b_y = H.n + 1 + 1 + 1 + 1 + 1 + 1) = False ∧ (b_y = H.n + 1 + 1 + 1 + 1 + 1 + 1 + 1) = False ∧ (b_y = H.n + 1 + 1 + 1 + 1 + 1 + 1 + 1 + 1) = False ∧ (b_y = H.n + 1 + 1 + 1 + 1 + 1 + 1 + 1 + 1 + 1) = False ∧ (b_y = H.n + 1 + 1 + 1 + 1 + 1 + 1 + 1 + 1 + 1 + 1) = False ∧ (b_y = H.n + 1 + 1 + 1 + 1 + 1 + 1 + 1 + 1 + 1 + 1 + 1) = False ∧ (b_y = H.n + 1 + 1 + 1 + 1 + 1 + 1 + 1 + 1 + 1 + 1 + 1 + 1) = False := ⟨eq_false (by omega), eq_false (by omega), eq_false (by omega), eq_false (by omega), eq_false (by omega), eq_false (by omega), eq_false (by omega), eq_false (by omega), eq_false (by omega), eq_false (by omega), eq_false (by omega)⟩
      simp (config := {contextual := true, implicitDefEqProofs := false, maxSteps := 2000000}) [-Int.not_le, -Int.not_lt, argsF, laws_eqIntSS_l0, hat_ps.blk, hat_ps.esz, hat_ps.len, hon_ps, hne_ps, hne1_ps, hne2_ps.1, hne2_ps.2.1, hne2_ps.2.2.1, hne2_ps.2.2.2.1, hne2_ps.2.2.2.2.1, hne2_ps.2.2.2.2.2.1, hne2_ps.2.2.2.2.2.2.1, hne2_ps.2.2.2.2.2.2.2.1, hne2_ps.2.2.2.2.2.2.2.2.1, hne2_ps.2.2.2.2.2.2.2.2.2.1, hne2_ps.2.2.2.2.2.2.2.2.2.2, hat_rs.blk, hat_rs.esz, hat_rs.len, hon_rs, hne_rs, hne1_rs, hne2_rs.1, hne2_rs.2.1, hne2_rs.2.2.1, hne2_rs.2.2.2.1, hne2_rs.2.2.2.2.1, hne2_rs.2.2.2.2.2.1, hne2_rs.2.2.2.2.2.2.1, hne2_rs.2.2.2.2.2.2.2.1, hne2_rs.2.2.2.2.2.2.2.2.1, hne2_rs.2.2.2.2.2.2.2.2.2.1, hne2_rs.2.2.2.2.2.2.2.2.2.2, hsr, hsp, hst, hss, hsk, hj1, hr, hr1, w1, hlt, e_x, e_y, hat_x.blk, hat_x.esz, hat_x.len, hat_x.els, hne_x, hne1_x, hne2_x.1, hne2_x.2.1, hne2_x.2.2.1, hne2_x.2.2.2.1, hne2_x.2.2.2.2.1, hne2_x.2.2.2.2.2.1, hne2_x.2.2.2.2.2.2.1, hne2_x.2.2.2.2.2.2.2.1, hne2_x.2.2.2.2.2.2.2.2.1, hne2_x.2.2.2.2.2.2.2.2.2.1, hne2_x.2.2.2.2.2.2.2.2.2.2, hat_y.blk, hat_y.esz, hat_y.len, hat_y.els, hne_y, hne1_y, hne2_y.1, hne2_y.2.1, hne2_y.2.2.1, hne2_y.2.2.2.1, hne2_y.2.2.2.2.1, hne2_y.2.2.2.2.2.1, hne2_y.2.2.2.2.2.2.1, hne2_y.2.2.2.2.2.2.2.1, hne2_y.2.2.2.2.2.2.2.2.1, hne2_y.2.2.2.2.2.2.2.2.2.1, hne2_y.2.2.2.2.2.2.2.2.2.2]
      simp only [List.cons.injEq] at hi
      refine ite_i (fun hc => ?_) (fun hc => ?_)
      · simp only [hc, true_and] at hi
        exact ⟨(), hi, .drop hwf (by (repeat first | exact Sub.refl _ | refine Sub.push hwf ?_ _ | refine Sub.set hwf ?_ (by first | exact Nat.le_refl _ | omega | (simp only [push_n, set_n, kill_n]; omega)) _ | refine Sub.kill hwf ?_ (by first | exact Nat.le_refl _ | omega | (simp only [push_n, set_n, kill_n]; omega)))) (by simp [frOk, AV.okR, AV.ok1, AC.okR, AV.ren, AV.ren1, AC.ren, AFrame.get, pl1_old, *]; first | done | rfl | omega)⟩
      · simp only [hc, false_and, decide_false] at hi
        (refine Out.plain hwf ?_ rfl ?_; (repeat first | exact Sub.refl _ | refine Sub.push hwf ?_ _ | refine Sub.set hwf ?_ (by first | exact Nat.le_refl _ | omega | (simp only [push_n, set_n, kill_n]; omega)) _ | refine Sub.kill hwf ?_ (by first | exact Nat.le_refl _ | omega | (simp only [push_n, set_n, kill_n]; omega)))); exact hi
    · simp (config := {contextual := true, implicitDefEqProofs := false, maxSteps := 2000000}) [-Int.not_le, -Int.not_lt, argsF, laws_eqIntSS_l0]
      rw [show ps.length = rs.length by omega, List.drop_length] at hi
      (refine Out.plain hwf ?_ rfl ?_; (repeat first | exact Sub.refl _ | refine Sub.push hwf ?_ _ | refine Sub.set hwf ?_ (by first | exact Nat.le_refl _ | omega | (simp only [push_n, set_n, kill_n]; omega)) _ | refine Sub.kill hwf ?_ (by first | exact Nat.le_refl _ | omega | (simp only [push_n, set_n, kill_n]; omega)))); simpa using hi
  · (refine Out.plain hwf ?_ rfl ?_; (repeat first | exact Sub.refl _ | refine Sub.push hwf ?_ _ | refine Sub.set hwf ?_ (by first | exact Nat.le_refl _ | omega | (simp only [push_n, set_n, kill_n]; omega)) _ | refine Sub.kill hwf ?_ (by first | exact Nat.le_refl _ | omega | (simp only [push_n, set_n, kill_n]; omega))))
    rwa [decide_eq_false (fun e => hlen (by rw [e]))] at h

def q_heldII : Con := fun args H K => match args with
  | [ps_v, .c (.int .i64 k)] => eII.rd H (fun ps => (∀ p ∈ ps, p.length ≤ 1048576) ∧ 0 ≤ k ∧ k + 1048576 * (ps.length : Int) ≤ 1099511627776 ∧ K (.c (.int .i64 (heldII ps k))) H) ps_v
  | _ => False
@[simp ↓] theorem q_heldII_eq (ps_v : AV) (k : Int) (H : AHeap) (K : AV → AHeap → Prop) : q_heldII [ps_v, .c (.int .i64 k)] H K = (eII.rd H (fun ps => (∀ p ∈ ps, p.length ≤ 1048576) ∧ 0 ≤ k ∧ k + 1048576 * (ps.length : Int) ≤ 1099511627776 ∧ K (.c (.int .i64 (heldII ps k))) H) ps_v) := rfl

theorem heldInt_le : ∀ (l : List Int) (k : Int), heldInt l k ≤ k + (l.length : Int) ∨ heldInt l k < 0
  | [], k => by simp [heldInt]
  | p :: r, k => by
    rw [heldInt]
    split
    · have := heldInt_le r (k + 1)
      simp only [List.length_cons]
      omega
    · omega

theorem laws_heldIntSS_s : Sound Try.prog 29 q_heldII := by
  intro args H K h
  unfold q_heldII at h
  split at h
  rotate_left
  all_goals first | exact False.elim h | skip
  rename_i ps_v k
  have h1 := EncH.rd_at h
  clear h
  obtain ⟨b_ps, i_ps, k_ps, ps, rfl, hat_ps, h⟩ := h1
  have hE := soundE_cons laws_heldIntS_s (soundE_nil (P := Try.prog))
  refine acalls_fn laws_heldIntSS_k hE ⟨by simp, fun hwf => ?_⟩
  have hsr : SubE H H := SubE.refl H
  have hsp : ∀ H' k, H.n ≤ H'.n → SubE H H' → SubE H (H'.push k) := fun H' k hn hs => SubE.push hwf hn hs k
  have hst : ∀ H', SubE H H' → SubE H H'.toRo := fun H' hs => hs.toRo
  have hss : ∀ H' i k, H.n ≤ i → SubE H H' → SubE H (H'.set i k) := fun H' i k hn hs => SubE.set hwf hn hs k
  have hsk : ∀ H' i, H.n ≤ i → SubE H H' → SubE H (H'.kill i) := fun H' i hn hs => SubE.kill hwf hn hs
  have hon_ps := hat_ps.on
  have hb_ps : b_ps < H.n := (hwf b_ps k_ps hat_ps.blk).1
  have hne_ps : (b_ps = H.n) = False := eq_false (by omega)
  have hne1_ps : ∀ i, (b_ps = H.n + i) = False := fun i => eq_false (by omega)
  have hne2_ps : (b_ps = H.n + 1 + 1) = False ∧ (b_ps = H.n + 1 + 1 + 1) = False ∧ (b_ps = H.n + 1 + 1 + 1 + 1) = False ∧ (b_ps = H.n + 1 + 1 + 1 + 1 + 1) = False ∧ (b_ps = H.n + 1 + 1 + 1 + 1 + 1 + 1) = False ∧ (b_ps = H.n + 1 + 1 + 1 + 1 + 1 + 1 + 1) = False ∧ (b_ps = H.n + 1 + 1 + 1 + 1 + 1 + 1 + 1 + 1) = False ∧ (b_ps = H.n + 1 + 1 + 1 + 1 + 1 + 1 + 1 + 1 + 1) = False ∧ (b_ps = H.n + 1 + 1 + 1 + 1 + 1 + 1 + 1 + 1 + 1 + 1) = False ∧ (b_ps = H.n + 1 + 1 + 1 + 1 + 1 + 1 + 1 + 1 + 1 + 1 + 1) = False ∧ (b_ps = H.n + 1 + 1 + 1 + 1 + 1 + 1 + 1 + 1 + 1 + 1 + 1 + 1) = False := ⟨eq_false (by omega), eq_false (by omega), eq_false (by omega), eq_false (by omega), eq_false (by omega), eq_false (by omega), eq_false (by omega), eq_false (by omega), eq_false (by omega), eq_false (by omega), eq_false (by omega)⟩
  have hmx_ps : ps.length ≤ 9223372036854775807 := by have h1 := (hwf b_ps k_ps hat_ps.blk).2.2; have h2 := hat_ps.len; omega
  obtain ⟨hl, hk0, hk1, h⟩ := h
  simp (config := {contextual := true, implicitDefEqProofs := false, maxSteps := 60000}) [-Int.not_le, -Int.not_lt, argsF, laws_heldIntSS_c, hat_ps.blk, hat_ps.esz, hat_ps.len, hon_ps, hne_ps, hne1_ps, hne2_ps.1, hne2_ps.2.1, hne2_ps.2.2.1, hne2_ps.2.2.2.1, hne2_ps.2.2.2.2.1, hne2_ps.2.2.2.2.2.1, hne2_ps.2.2.2.2.2.2.1, hne2_ps.2.2.2.2.2.2.2.1, hne2_ps.2.2.2.2.2.2.2.2.1, hne2_ps.2.2.2.2.2.2.2.2.2.1, hne2_ps.2.2.2.2.2.2.2.2.2.2, hsr, hsp, hst, hss, hsk]
  refine aloop_list ps (fun j (m : Int) => [(0, .c (.sl b_ps i_ps ps.length)), (1, .c (.int .i64 (m))), (5, .c (.int .i64 ((j : Int))))]) (fun j (m : Int) => H) (fun j l (m : Int) => 0 ≤ m ∧ m + 1048576 * (l.length : Int) ≤ 1099511627776 ∧ K (.c (.int .i64 (heldII l m))) H) hE _ k ⟨hk0, hk1, h⟩ (.same hwf (by simp [frOk, AV.okR, AV.ok1, AC.okR, AV.ren, AV.ren1, AC.ren, AFrame.get, pl1_old, *]; first | done | rfl | omega)) (fun j m hlt hi => ?_) fun m hi => ?_
  · obtain ⟨hm0, hm1, hi⟩ := hi
    simp only [List.length_cons] at hm1
    have hj1 := idx_lt hlt
    have w1 : IntKind.i64.wrap ((j : Int) + 1) = (j : Int) + 1 := wrap_id (by omega) (by omega)
    obtain ⟨ex_x, e_x, hd_x⟩ := hat_ps.get hlt
    obtain ⟨b_x, i_x, k_x, rfl, hat_x, htx_x⟩ := eII_at3 hd_x
    have hb_x : b_x < H.n := (hwf b_x k_x hat_x.blk).1
    have hne_x : (b_x = H.n) = False := eq_false (by omega)
    have hne1_x : ∀ i, (b_x = H.n + i) = False := fun i => eq_false (by omega)
    have hne2_x : (b_x = H.n + 1 + 1) = False ∧ (b_x = H.n + 1 + 1 + 1) = False ∧ (b_x = H.n + 1 + 1 + 1 + 1) = False ∧ (b_x = H.n + 1 + 1 + 1 + 1 + 1) = False ∧ (b_x = H.n + 1 + 1 + 1 + 1 + 1 + 1) = False ∧ (b_x = H.n + 1 + 1 + 1 + 1 + 1 + 1 + 1) = False ∧ (b_x = H.n + 1 + 1 + 1 + 1 + 1 + 1 + 1 + 1) = False ∧ (b_x = H.n + 1 + 1 + 1 + 1 + 1 + 1 + 1 + 1 + 1) = False ∧ (b_x = H.n + 1 + 1 + 1 + 1 + 1 + 1 + 1 + 1 + 1 + 1) = False ∧ (b_x = H.n + 1 + 1 + 1 + 1 + 1 + 1 + 1 + 1 + 1 + 1 + 1) = False ∧ (b_x = H.n + 1 + 1 + 1 + 1 + 1 + 1 + 1 + 1 + 1 + 1 + 1 + 1) = False := ⟨eq_false (by omega), eq_false (by omega), eq_false (by omega), eq_false (by omega), eq_false (by omega), eq_false (by omega), eq_false (by omega), eq_false (by omega), eq_false (by omega), eq_false (by omega), eq_false (by omega)⟩
    have hpl := hl _ (List.getElem_mem hlt)
    have hle := heldInt_le ps[j] m
    have hm2 : m ≤ 1099511627776 := by omega
    simp (config := {contextual := true, implicitDefEqProofs := false, maxSteps := 2000000}) [-Int.not_le, -Int.not_lt, argsF, laws_heldIntSS_l0, hat_ps.blk, hat_ps.esz, hat_ps.len, hon_ps, hne_ps, hne1_ps, hne2_ps.1, hne2_ps.2.1, hne2_ps.2.2.1, hne2_ps.2.2.2.1, hne2_ps.2.2.2.2.1, hne2_ps.2.2.2.2.2.1, hne2_ps.2.2.2.2.2.2.1, hne2_ps.2.2.2.2.2.2.2.1, hne2_ps.2.2.2.2.2.2.2.2.1, hne2_ps.2.2.2.2.2.2.2.2.2.1, hne2_ps.2.2.2.2.2.2.2.2.2.2, hsr, hsp, hst, hss, hsk, hj1, w1, hlt, hm0, hm2, hpl, e_x, hat_x.blk, hat_x.esz, hat_x.len, hat_x.els, hne_x, hne1_x, hne2_x.1, hne2_x.2.1, hne2_x.2.2.1, hne2_x.2.2.2.1, hne2_x.2.2.2.2.1, hne2_x.2.2.2.2.2.1, hne2_x.2.2.2.2.2.2.1, hne2_x.2.2.2.2.2.2.2.1, hne2_x.2.2.2.2.2.2.2.2.1, hne2_x.2.2.2.2.2.2.2.2.2.1, hne2_x.2.2.2.2.2.2.2.2.2.2]
    simp only [heldII] at hi
    refine ite_i (fun hc => ?_) (fun hc => ?_)
    · rw [if_pos hc] at hi
      (refine Out.plain hwf ?_ rfl ?_; (repeat first | exact Sub.refl _ | refine Sub.push hwf ?_ _ | refine Sub.set hwf ?_ (by first | exact Nat.le_refl _ | omega | (simp only [push_n, set_n, kill_n]; omega)) _ | refine Sub.kill hwf ?_ (by first | exact Nat.le_refl _ | omega | (simp only [push_n, set_n, kill_n]; omega)))); exact hi
    · rw [if_neg hc] at hi
      exact ⟨_, ⟨by omega, by omega, hi⟩, .drop hwf (by (repeat first | exact Sub.refl _ | refine Sub.push hwf ?_ _ | refine Sub.set hwf ?_ (by first | exact Nat.le_refl _ | omega | (simp only [push_n, set_n, kill_n]; omega)) _ | refine Sub.kill hwf ?_ (by first | exact Nat.le_refl _ | omega | (simp only [push_n, set_n, kill_n]; omega)))) (by simp [frOk, AV.okR, AV.ok1, AC.okR, AV.ren, AV.ren1, AC.ren, AFrame.get, pl1_old, *]; first | done | rfl | omega)⟩
  · obtain ⟨hm0, hm1, hi⟩ := hi
    simp only [heldII] at hi
    simp (config := {contextual := true, implicitDefEqProofs := false, maxSteps := 2000000}) [-Int.not_le, -Int.not_lt, argsF, laws_heldIntSS_l0]
    (refine Out.plain hwf ?_ rfl ?_; (repeat first | exact Sub.refl _ | refine Sub.push hwf ?_ _ | refine Sub.set hwf ?_ (by first | exact Nat.le_refl _ | omega | (simp only [push_n, set_n, kill_n]; omega)) _ | refine Sub.kill hwf ?_ (by first | exact Nat.le_refl _ | omega | (simp only [push_n, set_n, kill_n]; omega)))); exact hi

end Go.Proofs.Ytafenginfojcmaa
