/- Marks over lists of sightings. -/
import Derived.Test.YtafenginfojcmaaTkSi
import Derived.Test.YtafenginfojcmaaSiX
set_option maxRecDepth 8000
set_option linter.unusedSimpArgs false
set_option linter.unusedVariables false
namespace Go.Proofs.Ytafenginfojcmaa
open Go Go.RowKit

set_option maxHeartbeats 4000000
/-- a number's text, as the laws write it -/
def mtGo (n : Nat) (out : List UInt8) : List UInt8 := if h : n = 0 then out else mtGo (n / 10) (UInt8.ofNat (48 + n % 10) :: out)
termination_by n
decreasing_by omega
def markT (k : Int) : List UInt8 := 109 :: mtGo k.toNat []
theorem mtGo_0 (out : List UInt8) : mtGo 0 out = out := by rw [mtGo, dif_pos rfl]
theorem mtGo_s {n : Nat} (h : 0 < n) (out : List UInt8) : mtGo n out = mtGo (n / 10) (UInt8.ofNat (48 + n % 10) :: out) := by rw [mtGo, dif_neg (by omega)]
theorem mtGo_len : ∀ (n : Nat) (out : List UInt8), (mtGo n out).length ≤ n + out.length := by
  intro n
  induction n using Nat.strongRecOn with
  | _ n ih =>
    intro out
    rcases Nat.eq_zero_or_pos n with rfl | h
    · rw [mtGo_0]; omega
    · rw [mtGo_s h]
      have := ih (n / 10) (by omega) (UInt8.ofNat (48 + n % 10) :: out)
      simp only [List.length_cons] at this
      omega
theorem markT_len (k : Int) (h0 : 0 ≤ k) (h : k ≤ 1099511627776) : (markT k).length ≤ 9223372036854775807 := by
  have := mtGo_len k.toNat []
  simp only [markT, List.length_cons]
  simp only [List.length_nil] at this
  omega

def q_markText : Con := fun args H K => match args with
  | [.c (.int .i64 k)] => 0 < k ∧ k ≤ 1099511627776 ∧ K (.c (.str (markT k))) H
  | _ => False
@[simp ↓] theorem q_markText_eq (k : Int) (H : AHeap) (K : AV → AHeap → Prop) : q_markText [.c (.int .i64 k)] H K = (0 < k ∧ k ≤ 1099511627776 ∧ K (.c (.str (markT k))) H) := rfl

theorem laws_markText_s : Sound Try.prog 52 q_markText := by
  intro args H K h
  unfold q_markText at h
  split at h
  rotate_left
  all_goals first | exact False.elim h | skip
  rename_i k
  have hE := soundE_nil (P := Try.prog)
  refine acalls_fn laws_markText_k hE ⟨by simp, fun hwf => ?_⟩
  obtain ⟨hk0, hk1, h⟩ := h
  have hk2 : ¬ k ≤ 0 := by omega
  simp (config := {contextual := true, implicitDefEqProofs := false, maxSteps := 60000}) [-Int.not_le, -Int.not_lt, argsF, laws_markText_c, hk2]
  have hkn : ((k.toNat : Nat) : Int) = k := Int.toNat_of_nonneg (by omega)
  refine aloop_heap (X := Nat × List UInt8) (fun x => [(0, .c (.int .i64 ((x.1 : Int)))), (3, .c (.str (x.2)))]) (fun _ => H) (fun x => mtGo x.1 x.2 = mtGo k.toNat [] ∧ x.1 + x.2.length ≤ k.toNat) (fun x => x.1) hE _ (k.toNat, []) ⟨rfl, by simp⟩ (fun hw0 => by simp only [hkn]; exact .same hwf (by simp [frOk, AV.okR, AV.ok1, AC.okR, AV.ren, AV.ren1, AC.ren, AFrame.get, pl1_old, *]; first | done | rfl | omega)) (fun x hx hwx => ?_)
  obtain ⟨n, out⟩ := x
  obtain ⟨hx1, hx2⟩ := hx
  simp only at hx1 hx2
  rcases Nat.eq_zero_or_pos n with rfl | hn
  · have g1 : ¬ (0 : Int) < ((0 : Nat) : Int) := by omega
    have g2 : 1 + out.length ≤ 9223372036854775807 := by omega
    simp (config := {contextual := true, implicitDefEqProofs := false, maxSteps := 2000000}) [-Int.not_le, -Int.not_lt, argsF, laws_markText_l0, g1]
    rw [mtGo_0] at hx1
    rw [markT, ← hx1] at h
    exact ⟨g2, Out.plain (hwf) (.refl _) rfl h⟩
  · have g1 : (0 : Int) < (n : Int) := by omega
    have e1 : (n : Int).tmod 10 = (n : Int) % 10 := Int.tmod_eq_emod_of_nonneg (by omega)
    have e2 : (n : Int).tdiv 10 = (n : Int) / 10 := Int.tdiv_eq_ediv_of_nonneg (by omega)
    have w1 : IntKind.i64.wrap (48 + (n : Int) % 10) = 48 + (n : Int) % 10 := wrap_id (by omega) (by omega)
    have w2 : IntKind.i64.wrap ((n : Int) / 10) = (n : Int) / 10 := wrap_id (by omega) (by omega)
    have w3 : IntKind.u8.wrap (48 + (n : Int) % 10) = 48 + (n : Int) % 10 := by
      have h0 : (2 : Int) ^ 8 = 256 := by decide
      simp only [IntKind.wrap, IntKind.bits, IntKind.signed, h0, Bool.false_and]
      simp
      try omega
    have g2 : 1 + out.length ≤ 9223372036854775807 := by omega
    have hbo : bytesOf [[AC.int IntKind.u8 (48 + (n : Int) % 10)]] = some [UInt8.ofNat (48 + n % 10)] := by
      show some [UInt8.ofNat (48 + (n : Int) % 10).toNat] = _
      have : (48 + (n : Int) % 10).toNat = 48 + n % 10 := by omega
      rw [this]
    simp (config := {contextual := true, implicitDefEqProofs := false, maxSteps := 2000000}) [-Int.not_le, -Int.not_lt, argsF, laws_markText_l0, g1, g2, e1, e2, w1, w2, w3, hbo, hn]
    rw [mtGo_s hn] at hx1
    exact ⟨fun hw => ⟨(n / 10, UInt8.ofNat (48 + n % 10) :: out), ⟨hx1, by simp only [List.length_cons]; omega⟩, by simp only; omega, .drop hwf (by (repeat first | exact Sub.refl _ | refine Sub.push hwf ?_ _ | refine Sub.set hwf ?_ (by first | exact Nat.le_refl _ | omega | (simp only [push_n, set_n, kill_n]; omega)) _ | refine Sub.kill hwf ?_ (by first | exact Nat.le_refl _ | omega | (simp only [push_n, set_n, kill_n]; omega)))) (by simp [frOk, AV.okR, AV.ok1, AC.okR, AV.ren, AV.ren1, AC.ren, AFrame.get, pl1_old, *]; first | done | rfl | omega)⟩⟩

/-- how many numbers the sightings of a list have -/
def siTot (ps : List Si) : Nat := (ps.map fun p => p.traits.length).sum
theorem szSiGo_tot : ∀ (ps : List Si) (l : Int), 0 ≤ l → 0 ≤ szSiGo ps l → (siTot ps : Int) ≤ l
  | [], l, h0, _ => by simpa [siTot] using h0
  | q :: r, l, h0, h => by
    simp only [szSiGo] at h
    split at h
    · omega
    · rename_i h1
      have h3 := szSiGo_tot r _ (by omega) h
      have h2 : szSi q l = l - (q.town.length : Int) - (q.traits.length : Int) := by
        unfold szSi at h1 ⊢
        split at h1
        · omega
        · split at h1
          · omega
          · rename_i h4 h5; rw [if_neg h4, if_neg h5]
      simp only [siTot, List.map_cons, List.sum_cons] at h3 ⊢
      omega
theorem szSis_tot {ps : List Si} (h : 0 ≤ szSis ps 1048576) : siTot ps ≤ 1048576 := by
  unfold szSis at h
  split at h
  · omega
  · have := szSiGo_tot ps _ (by omega) h
    omega
theorem siTot_le {ps : List Si} {p : Si} (h : p ∈ ps) : p.traits.length ≤ siTot ps := by
  induction ps with
  | nil => cases h
  | cons q r ih =>
    simp only [siTot, List.map_cons, List.sum_cons] at ih ⊢
    rcases List.mem_cons.1 h with rfl | h
    · omega
    · have := ih h; omega
def mkS (p : Si) (k : Int) : Si := ⟨k, k + 1, markT (k + 1 + 1), mksInt p.traits.length (k + 1 + 1 + 1)⟩
def mksS : List Si → Int → List Si
  | [], _ => []
  | p :: r, k => mkS p k :: mksS r (k + 1 + 1 + 1 + (p.traits.length : Int))
def endS : List Si → Int → Int
  | [], k => k
  | p :: r, k => endS r (k + 1 + 1 + 1 + (p.traits.length : Int))
theorem endS_eq : ∀ (ps : List Si) (k : Int), endS ps k = k + 3 * (ps.length : Int) + (siTot ps : Int)
  | [], k => by simp [endS, siTot]
  | p :: r, k => by
    rw [endS, endS_eq r]
    simp only [siTot, List.map_cons, List.sum_cons, List.length_cons]
    push_cast
    omega
@[simp] theorem mksS_len : ∀ (ps : List Si) (k : Int), (mksS ps k).length = ps.length
  | [], _ => rfl
  | p :: r, k => by simp [mksS, mksS_len r]
/-- a list of sightings of one's own, row by row -/
structure SiRows (H : AHeap) (b : Nat) (cs : List Nat) (ps : List Si) : Prop where
  len : cs.length = ps.length
  nd : cs.Nodup
  nb : b ∉ cs
  blk : H.b b = some ⟨51, 4, false, false, List.zipWith siCells cs ps⟩
  row : ∀ (j c : Nat) (p : Si), cs[j]? = some c → ps[j]? = some p → H.b c = some (rowK eI 3 p.traits)
theorem NewSi.rows {lo : Nat} {H : AHeap} {b : Nat} {ps : List Si} (h : NewSi lo H b ps) (hw : H.WF) : ∃ cs, SiRows H b cs ps ∧ ∀ c ∈ b :: cs, lo ≤ c ∧ c < H.n := by
  obtain ⟨cs, h1, h2, h3, h4, h5⟩ := h.ex
  refine ⟨cs, ⟨h1, h2, fun hb => (h3 b hb).2 rfl, h4, h5⟩, fun c hc => ?_⟩
  rcases List.mem_cons.1 hc with rfl | hc
  · exact ⟨h.ge, (hw _ _ h4).1⟩
  · refine ⟨(h3 c hc).1, ?_⟩
    obtain ⟨j, hj⟩ := List.getElem?_of_mem hc
    have hjl := (List.getElem?_eq_some_iff.1 hj).1
    exact (hw _ _ (h5 j c ps[j] hj (List.getElem?_eq_getElem (by omega)))).1
theorem SiRows.sub {H H' : AHeap} {b : Nat} {cs : List Nat} {ps : List Si} (h : SiRows H b cs ps) (hs : Sub H H') : SiRows H' b cs ps :=
  ⟨h.len, h.nd, h.nb, hs.1.2 _ _ h.blk, fun j c p hc hp => hs.1.2 _ _ (h.row j c p hc hp)⟩
theorem SiRows.at {H : AHeap} {b : Nat} {cs : List Nat} {ps : List Si} (h : SiRows H b cs ps) (htx : ∀ p ∈ ps, p.town.length ≤ 9223372036854775807) : ∃ k, eSi.At H b 0 k ps ∧ k.els.length = ps.length := by
  refine ⟨_, ⟨h.blk, rfl, by simp [h.len], ?_⟩, by simp [h.len]⟩
  have hd := eSi.decL_zip (H := H) siCells cs ps h.len fun j c p hc hp => eSi_cells (h.row j c p hc hp) (htx p (List.mem_of_getElem? hp))
  have hl : (List.zipWith siCells cs ps).length = ps.length := by simp [h.len]
  simpa [hl, List.take_of_length_le] using hd
/-- all but some blocks in between is as it was -/
structure SubOut (lo hi : Nat) (H H' : AHeap) : Prop where
  n : H'.n = H.n
  I : H'.I = H.I
  out : ∀ c, c < lo ∨ hi ≤ c → H'.b c = H.b c
theorem SubOut.sub {lo hi : Nat} {H0 H H' : AHeap} (h : SubOut lo hi H H') (hs : Sub H0 H) (hwf : H0.WF) (hlo : H0.n ≤ lo) : Sub H0 H' :=
  ⟨⟨by rw [h.n]; exact hs.1.1, fun b k hk => (h.out b (.inl (Nat.lt_of_lt_of_le (hwf b k hk).1 hlo))).trans (hs.1.2 b k hk)⟩, hs.2.trans h.I.symm⟩
theorem SiRows.get {H : AHeap} {b : Nat} {cs : List Nat} {ps : List Si} (h : SiRows H b cs ps) {j : Nat} (hj : j < ps.length) : ∃ c, cs[j]? = some c ∧ (List.zipWith siCells cs ps)[j]? = some (siCells c ps[j]) ∧ H.b c = some (rowK eI 3 ps[j].traits) ∧ c ≠ b ∧ c ∈ cs := by
  have hjc : j < cs.length := by rw [h.len]; exact hj
  have h1 : cs[j]? = some cs[j] := List.getElem?_eq_getElem hjc
  have h2 : ps[j]? = some ps[j] := List.getElem?_eq_getElem hj
  exact ⟨cs[j], h1, by simp [List.getElem?_zipWith, h1, h2], h.row j _ _ h1 h2, fun e => h.nb (e ▸ List.getElem_mem hjc), List.getElem_mem hjc⟩
theorem SiRows.mark {H : AHeap} {b c : Nat} {cs : List Nat} {d r : List Si} {p : Si} (h : SiRows H b cs (d ++ p :: r)) (hc : cs[d.length]? = some c) (p' : Si) :
    SiRows ((H.set b ⟨51, 4, false, false, (List.zipWith siCells cs (d ++ p :: r)).set d.length (siCells c p')⟩).set c (rowK eI 3 p'.traits)) b cs (d ++ p' :: r) := by
  have hcb : b ≠ c := fun e => h.nb (e ▸ List.mem_of_getElem? hc)
  have hl := h.len
  simp only [List.length_append, List.length_cons] at hl
  refine ⟨by simp [hl], h.nd, h.nb, ?_, fun j c' q hj hq => ?_⟩
  · rw [set_b, if_neg hcb, set_b, if_pos rfl]
    congr 2
    apply List.ext_getElem?
    intro i
    rw [List.getElem?_set]
    by_cases hi : d.length = i
    · subst hi
      have : d.length < (List.zipWith siCells cs (d ++ p :: r)).length := by simp; omega
      simp only [if_true, this, List.getElem?_zipWith, hc]
      simp
    · simp only [hi, if_false, List.getElem?_zipWith]
      have : (d ++ p :: r)[i]? = (d ++ p' :: r)[i]? := by
        rcases Nat.lt_or_ge i d.length with h1 | h1
        · rw [List.getElem?_append_left h1, List.getElem?_append_left h1]
        · rw [List.getElem?_append_right h1, List.getElem?_append_right h1]
          cases hm : i - d.length with
          | zero => omega
          | succ m => rfl
      rw [this]
  · rcases Nat.lt_trichotomy j d.length with h1 | h1 | h1
    · have hne : c' ≠ c := fun e => by
        subst e
        have := (List.getElem?_inj (i := j) (j := d.length) (by omega) h.nd).1 (hj.trans hc.symm)
        omega
      rw [set_b, if_neg hne, set_b, if_neg (fun e => h.nb (by rw [← e]; exact List.mem_of_getElem? hj))]
      refine h.row j c' q hj ?_
      rw [List.getElem?_append_left h1] at hq ⊢
      exact hq
    · subst h1
      rw [hc] at hj
      cases hj
      rw [set_b, if_pos rfl]
      rw [List.getElem?_append_right (Nat.le_refl _)] at hq
      simp at hq
      rw [hq]
    · have hne : c' ≠ c := fun e => by
        subst e
        have h3 := (List.getElem?_eq_some_iff.1 hj).1
        have := (List.getElem?_inj (i := j) (j := d.length) h3 h.nd).1 (hj.trans hc.symm)
        omega
      rw [set_b, if_neg hne, set_b, if_neg (fun e => h.nb (by rw [← e]; exact List.mem_of_getElem? hj))]
      refine h.row j c' q hj ?_
      rw [List.getElem?_append_right (by omega)] at hq ⊢
      cases hm : j - d.length with
      | zero => omega
      | succ m => rw [hm] at hq; exact hq
def q_markSis : Con := fun args H K => match args with
  | [.c (.sl b i n), .c (.int .i64 k)] => Stop (∃ lo hi cs ps, i = 0 ∧ n = ps.length ∧ SiRows H b cs ps ∧ (∀ c ∈ b :: cs, lo ≤ c ∧ c < hi) ∧ ps.length ≤ 1048576 ∧ (∀ p ∈ ps, p.traits.length ≤ 1048576) ∧ 0 < k ∧ endS ps k ≤ 1099511627000 ∧ ∀ H', H'.WF → SubOut lo hi H H' → SiRows H' b cs (mksS ps k) → K (.c (.int .i64 (endS ps k))) H') ()
  | _ => False
@[simp ↓] theorem q_markSis_eq (b i n : Nat) (k : Int) (H : AHeap) (K : AV → AHeap → Prop) : q_markSis [.c (.sl b i n), .c (.int .i64 k)] H K = Stop (∃ lo hi cs ps, i = 0 ∧ n = ps.length ∧ SiRows H b cs ps ∧ (∀ c ∈ b :: cs, lo ≤ c ∧ c < hi) ∧ ps.length ≤ 1048576 ∧ (∀ p ∈ ps, p.traits.length ≤ 1048576) ∧ 0 < k ∧ endS ps k ≤ 1099511627000 ∧ ∀ H', H'.WF → SubOut lo hi H H' → SiRows H' b cs (mksS ps k) → K (.c (.int .i64 (endS ps k))) H') () := rfl
structure MkX where
  H : AHeap
  d : List Si
  k : Int
theorem laws_markSightingS_s : Sound Try.prog 27 q_markSis := by
  intro args H K h
  unfold q_markSis at h
  split at h
  rotate_left
  all_goals first | exact False.elim h | skip
  rename_i b i n k
  obtain ⟨lo, hi, cs, ps, rfl, rfl, hrows, hbd, hl, hl2, hk0, hk1, h⟩ := h.go
  have hE := soundE_cons laws_markText_s (soundE_cons laws_markIntS_s (soundE_nil (P := Try.prog)))
  refine acalls_fn laws_markSightingS_k hE ⟨by simp, fun hwf => ?_⟩
  have hb : b < H.n := (hwf _ _ hrows.blk).1
  simp (config := {contextual := true, implicitDefEqProofs := false, maxSteps := 2000000}) [-Int.not_le, -Int.not_lt, argsF, laws_markSightingS_c]
  refine aloop_heap (X := MkX) (fun x => [(0, .c (.sl (b) (0) (ps.length))), (1, .c (.int .i64 (x.k))), (5, .c (.int .i64 ((x.d.length : Int))))]) (fun x => x.H) (fun x => x.d.length ≤ ps.length ∧ SiRows x.H b cs (x.d ++ ps.drop x.d.length) ∧ x.d ++ mksS (ps.drop x.d.length) x.k = mksS ps k ∧ endS (ps.drop x.d.length) x.k = endS ps k ∧ SubOut lo hi H x.H ∧ 0 < x.k) (fun x => ps.length - x.d.length) hE _ ⟨H, [], k⟩ ⟨Nat.zero_le _, by simpa using hrows, by simp, by simp, ⟨rfl, rfl, fun _ _ => rfl⟩, hk0⟩ (fun hw0 => .since (Nat.le_refl _) hw0 (.refl _) (by simp [frOk, AV.okR, AV.ok1, AC.okR, AV.ren, AV.ren1, AC.ren, AFrame.get, pl1_old, *]; first | done | rfl | omega)) (fun x hx hwx => ?_)
  obtain ⟨hx1, hx2, hx3, hx4, hx5, hx6⟩ := hx
  have hn := hx5.n
  rcases Nat.lt_or_ge x.d.length ps.length with hlt | hge
  rotate_left
  · have e : x.d.length = ps.length := by omega
    rw [e, List.drop_length] at hx2 hx3 hx4
    simp only [mksS, endS, List.append_nil] at hx2 hx3 hx4
    have hlt' : ¬ ((x.d.length : Int) < (ps.length : Int)) := by omega
    simp (config := {contextual := true, implicitDefEqProofs := false, maxSteps := 2000000}) [-Int.not_le, -Int.not_lt, argsF, laws_markSightingS_l0, hlt']
    rw [hx3] at hx2
    rw [hx4]
    exact Out.whole (by omega) (by simp [frOk, AV.okR, AV.ok1, AC.okR, AV.ren, AV.ren1, AC.ren, AFrame.get, pl1_old, *]; first | done | rfl | omega) fun hw => h _ hw hx5 hx2
  · obtain ⟨p, r, hpr⟩ : ∃ p r, ps.drop x.d.length = p :: r := ⟨_, _, List.drop_eq_getElem_cons hlt⟩
    have hr : ps.drop (x.d.length + 1) = r := by rw [← List.drop_drop, hpr]; rfl
    have hpm : p ∈ ps := List.mem_of_mem_drop (by rw [hpr]; simp)
    have hlr : ps.length = x.d.length + (r.length + 1) := by
      have := congrArg List.length hpr
      simp only [List.length_drop, List.length_cons] at this
      omega
    rw [hpr] at hx2 hx3 hx4
    simp only [mksS, endS] at hx3 hx4
    have hj : x.d.length < (x.d ++ p :: r).length := by simp
    obtain ⟨c, hc1, hc2, hc3, hc4, hc5⟩ := hx2.get hj
    have eg : (x.d ++ p :: r)[x.d.length] = p := by simp
    rw [eg] at hc2 hc3
    have hcx : c < x.H.n := (hwx _ _ hc3).1
    have q1 : (c = b) = False := eq_false hc4
    have q2 : (b = c) = False := eq_false fun e => hc4 e.symm
    have hlz : (List.zipWith siCells cs (x.d ++ p :: r)).length = ps.length := by
      have := hx2.len
      simp only [List.length_zipWith, this, Nat.min_self]
      simp
      omega
    have hblk := hx2.blk
    have htr := hl2 _ hpm
    have hmark := hx2.mark hc1 (mkS p x.k)
    have hen := endS_eq r (x.k + 1 + 1 + 1 + (p.traits.length : Int))
    rw [hx4] at hen
    have hj1 := idx_lt hlt
    have w0 : IntKind.i64.wrap ((x.d.length : Int) + 1) = (x.d.length : Int) + 1 := wrap_id (by omega) (by omega)
    have w1 : IntKind.i64.wrap (x.k + 1) = x.k + 1 := wrap_id (by omega) (by omega)
    have w2 : IntKind.i64.wrap (x.k + 1 + 1) = x.k + 1 + 1 := wrap_id (by omega) (by omega)
    have w3 : IntKind.i64.wrap (x.k + 1 + 1 + 1) = x.k + 1 + 1 + 1 := wrap_id (by omega) (by omega)
    have g1 : 0 < x.k + 1 + 1 := by omega
    have g2 : x.k + 1 + 1 ≤ 1099511627776 := by omega
    have g3 : 0 ≤ x.k + 1 + 1 + 1 := by omega
    have g4 : x.k + 1 + 1 + 1 ≤ 1099511627776 := by omega
    simp only [siCells] at hc2
    generalize List.zipWith siCells cs (x.d ++ p :: r) = Z at hblk hlz hc2 hmark
    have eg2 : ∀ h, Z[x.d.length]'h = [AC.int IntKind.i64 p.id, AC.int IntKind.i64 p.year, AC.str p.town, AC.sl c 0 p.traits.length] := fun h => by rw [List.getElem?_eq_getElem h] at hc2; simpa using hc2
    simp (config := {contextual := true, implicitDefEqProofs := false, maxSteps := 2000000}) [-Int.not_le, -Int.not_lt, argsF, laws_markSightingS_l0, eg2, hj1, hlt, w0, w1, w2, w3, g1, g2, g3, g4, hblk, hlz, hc3, q1, q2, htr, siCells]
    simp only [siCells, mkS, mksInt_len] at hmark
    have hd2 : (x.d ++ [mkS p x.k]).length = x.d.length + 1 := by simp
    have hdr : ps.drop (x.d ++ [mkS p x.k]).length = r := by rw [hd2, hr]
    refine ⟨fun hw => ⟨⟨(x.H.set b ⟨51, 4, false, false, Z.set x.d.length [AC.int IntKind.i64 x.k, AC.int IntKind.i64 (x.k + 1), AC.str (markT (x.k + 1 + 1)), AC.sl c 0 p.traits.length]⟩).set c (rowK eI 3 (mksInt p.traits.length (x.k + 1 + 1 + 1))), x.d ++ [mkS p x.k], x.k + 1 + 1 + 1 + (p.traits.length : Int)⟩, ⟨?_, ?_, ?_, ?_, ?_, ?_⟩, ?_, .since ?_ hw (.refl _) ?_⟩⟩
    · show (x.d ++ [mkS p x.k]).length ≤ _
      omega
    · show SiRows _ b cs ((x.d ++ [mkS p x.k]) ++ ps.drop (x.d ++ [mkS p x.k]).length)
      rw [hdr, List.append_assoc]
      exact hmark
    · show (x.d ++ [mkS p x.k]) ++ mksS (ps.drop (x.d ++ [mkS p x.k]).length) _ = _
      rw [hdr, List.append_assoc]
      exact hx3
    · show endS (ps.drop (x.d ++ [mkS p x.k]).length) _ = _
      rw [hdr]
      exact hx4
    · refine ⟨hx5.n, hx5.I, fun c' hc' => ?_⟩
      have b1 := hbd b (by simp)
      have b2 := hbd c (by simp [hc5])
      rw [← hx5.out c' hc', set_b, if_neg (by omega), set_b, if_neg (by omega)]
    · show 0 < x.k + 1 + 1 + 1 + (p.traits.length : Int)
      omega
    · show ps.length - (x.d ++ [mkS p x.k]).length < _
      omega
    · show H.n ≤ x.H.n
      omega
    · rw [hd2]
      exact (by simp [frOk, AV.okR, AV.ok1, AC.okR, AV.ren, AV.ren1, AC.ren, AFrame.get, pl1_old, *]; first | done | rfl | omega)

end Go.Proofs.Ytafenginfojcmaa
