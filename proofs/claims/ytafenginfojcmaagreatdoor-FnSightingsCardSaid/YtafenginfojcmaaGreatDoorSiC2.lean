/- Marks over lists of sightings. Lone sightings. Rows sorted and cut, by the kit's shelf; each number once. The traits of a group. The laws' helpers: rows of rows of numbers. The covers. -/
import Derived.Test.YtafenginfojcmaaGreatDoorSiG
import Derived.Test.YtafenginfojcmaaGreatDoorSiY
import Derived.Lib.RowBridge
set_option maxRecDepth 8000
set_option linter.unusedSimpArgs false
set_option linter.unusedVariables false
namespace Go.Proofs.YtafenginfojcmaaGreatDoor
open Go Go.RowKit

set_option maxHeartbeats 4000000
/-- a number's text, as the laws write it -/
def mtGo (n : Nat) (out : List UInt8) : List UInt8 := if h : n = 0 then out else mtGo (n / 10) (UInt8.ofNat (48 + n % 10) :: out)
termination_by n
decreasing_by omega
def markT (k : Int) : List UInt8 := 109 :: mtGo k.toNat []
theorem mtGo_0 (out : List UInt8) : mtGo 0 out = out := by rw [mtGo, dif_pos rfl]
theorem mtGo_s {n : Nat} (h : 0 < n) (out : List UInt8) : mtGo n out = mtGo (n / 10) (UInt8.ofNat (48 + n % 10) :: out) := by rw [mtGo, dif_neg (by omega)]
theorem mtGo_len : ∀ (n : Nat) (out : List UInt8), (mtGo n out).length ≤ n + out.length := by
  intro n
  induction n using Nat.strongRecOn with
  | _ n ih =>
    intro out
    rcases Nat.eq_zero_or_pos n with rfl | h
    · rw [mtGo_0]; omega
    · rw [mtGo_s h]
      have := ih (n / 10) (by omega) (UInt8.ofNat (48 + n % 10) :: out)
      simp only [List.length_cons] at this
      omega
theorem markT_len (k : Int) (h0 : 0 ≤ k) (h : k ≤ 1099511627776) : (markT k).length ≤ 9223372036854775807 := by
  have := mtGo_len k.toNat []
  simp only [markT, List.length_cons]
  simp only [List.length_nil] at this
  omega

def q_markText : Con := fun args H K => match args with
  | [.c (.int .i64 k)] => 0 < k ∧ k ≤ 1099511627776 ∧ K (.c (.str (markT k))) H
  | _ => False
@[simp ↓] theorem q_markText_eq (k : Int) (H : AHeap) (K : AV → AHeap → Prop) : q_markText [.c (.int .i64 k)] H K = (0 < k ∧ k ≤ 1099511627776 ∧ K (.c (.str (markT k))) H) := rfl

/-- how many numbers the sightings of a list have -/
def siTot (ps : List Si) : Nat := (ps.map fun p => p.traits.length).sum
theorem szSiGo_tot : ∀ (ps : List Si) (l : Int), 0 ≤ l → 0 ≤ szSiGo ps l → (siTot ps : Int) ≤ l
  | [], l, h0, _ => by simpa [siTot] using h0
  | q :: r, l, h0, h => by
    simp only [szSiGo] at h
    split at h
    · omega
    · rename_i h1
      have h3 := szSiGo_tot r _ (by omega) h
      have h2 : szSi q l = l - (q.town.length : Int) - (q.traits.length : Int) := by
        unfold szSi at h1 ⊢
        split at h1
        · omega
        · split at h1
          · omega
          · rename_i h4 h5; rw [if_neg h4, if_neg h5]
      simp only [siTot, List.map_cons, List.sum_cons] at h3 ⊢
      omega
theorem szSis_tot {ps : List Si} (h : 0 ≤ szSis ps 1048576) : siTot ps ≤ 1048576 := by
  unfold szSis at h
  split at h
  · omega
  · have := szSiGo_tot ps _ (by omega) h
    omega
theorem siTot_le {ps : List Si} {p : Si} (h : p ∈ ps) : p.traits.length ≤ siTot ps := by
  induction ps with
  | nil => cases h
  | cons q r ih =>
    simp only [siTot, List.map_cons, List.sum_cons] at ih ⊢
    rcases List.mem_cons.1 h with rfl | h
    · omega
    · have := ih h; omega
def mkS (p : Si) (k : Int) : Si := ⟨k, k + 1, markT (k + 1 + 1), mksInt p.traits.length (k + 1 + 1 + 1)⟩
def mksS : List Si → Int → List Si
  | [], _ => []
  | p :: r, k => mkS p k :: mksS r (k + 1 + 1 + 1 + (p.traits.length : Int))
def endS : List Si → Int → Int
  | [], k => k
  | p :: r, k => endS r (k + 1 + 1 + 1 + (p.traits.length : Int))
theorem endS_eq : ∀ (ps : List Si) (k : Int), endS ps k = k + 3 * (ps.length : Int) + (siTot ps : Int)
  | [], k => by simp [endS, siTot]
  | p :: r, k => by
    rw [endS, endS_eq r]
    simp only [siTot, List.map_cons, List.sum_cons, List.length_cons]
    push_cast
    omega
@[simp] theorem mksS_len : ∀ (ps : List Si) (k : Int), (mksS ps k).length = ps.length
  | [], _ => rfl
  | p :: r, k => by simp [mksS, mksS_len r]
/-- a list of sightings of one's own, row by row -/
structure SiRows (H : AHeap) (b : Nat) (cs : List Nat) (ps : List Si) : Prop where
  len : cs.length = ps.length
  nd : cs.Nodup
  nb : b ∉ cs
  blk : H.b b = some ⟨32, 4, false, false, List.zipWith siCells cs ps⟩
  row : ∀ (j c : Nat) (p : Si), cs[j]? = some c → ps[j]? = some p → H.b c = some (rowK eI 3 p.traits)
theorem NewSi.rows {lo : Nat} {H : AHeap} {b : Nat} {ps : List Si} (h : NewSi lo H b ps) (hw : H.WF) : ∃ cs, SiRows H b cs ps ∧ ∀ c ∈ b :: cs, lo ≤ c ∧ c < H.n := by
  obtain ⟨cs, h1, h2, h3, h4, h5⟩ := h.ex
  refine ⟨cs, ⟨h1, h2, fun hb => (h3 b hb).2 rfl, h4, h5⟩, fun c hc => ?_⟩
  rcases List.mem_cons.1 hc with rfl | hc
  · exact ⟨h.ge, (hw _ _ h4).1⟩
  · refine ⟨(h3 c hc).1, ?_⟩
    obtain ⟨j, hj⟩ := List.getElem?_of_mem hc
    have hjl := (List.getElem?_eq_some_iff.1 hj).1
    exact (hw _ _ (h5 j c ps[j] hj (List.getElem?_eq_getElem (by omega)))).1
theorem SiRows.sub {H H' : AHeap} {b : Nat} {cs : List Nat} {ps : List Si} (h : SiRows H b cs ps) (hs : Sub H H') : SiRows H' b cs ps :=
  ⟨h.len, h.nd, h.nb, hs.1.2 _ _ h.blk, fun j c p hc hp => hs.1.2 _ _ (h.row j c p hc hp)⟩
theorem SiRows.at {H : AHeap} {b : Nat} {cs : List Nat} {ps : List Si} (h : SiRows H b cs ps) (htx : ∀ p ∈ ps, p.town.length ≤ 9223372036854775807) : ∃ k, eSi.At H b 0 k ps ∧ k.els.length = ps.length := by
  refine ⟨_, ⟨h.blk, rfl, by simp [h.len], ?_⟩, by simp [h.len]⟩
  have hd := eSi.decL_zip (H := H) siCells cs ps h.len fun j c p hc hp => eSi_cells (h.row j c p hc hp) (htx p (List.mem_of_getElem? hp))
  have hl : (List.zipWith siCells cs ps).length = ps.length := by simp [h.len]
  simpa [hl, List.take_of_length_le] using hd
/-- all but some blocks in between is as it was -/
structure SubOut (lo hi : Nat) (H H' : AHeap) : Prop where
  n : H'.n = H.n
  I : H'.I = H.I
  out : ∀ c, c < lo ∨ hi ≤ c → H'.b c = H.b c
theorem SubOut.sub {lo hi : Nat} {H0 H H' : AHeap} (h : SubOut lo hi H H') (hs : Sub H0 H) (hwf : H0.WF) (hlo : H0.n ≤ lo) : Sub H0 H' :=
  ⟨⟨by rw [h.n]; exact hs.1.1, fun b k hk => (h.out b (.inl (Nat.lt_of_lt_of_le (hwf b k hk).1 hlo))).trans (hs.1.2 b k hk)⟩, hs.2.trans h.I.symm⟩
theorem SiRows.get {H : AHeap} {b : Nat} {cs : List Nat} {ps : List Si} (h : SiRows H b cs ps) {j : Nat} (hj : j < ps.length) : ∃ c, cs[j]? = some c ∧ (List.zipWith siCells cs ps)[j]? = some (siCells c ps[j]) ∧ H.b c = some (rowK eI 3 ps[j].traits) ∧ c ≠ b ∧ c ∈ cs := by
  have hjc : j < cs.length := by rw [h.len]; exact hj
  have h1 : cs[j]? = some cs[j] := List.getElem?_eq_getElem hjc
  have h2 : ps[j]? = some ps[j] := List.getElem?_eq_getElem hj
  exact ⟨cs[j], h1, by simp [List.getElem?_zipWith, h1, h2], h.row j _ _ h1 h2, fun e => h.nb (e ▸ List.getElem_mem hjc), List.getElem_mem hjc⟩
theorem SiRows.mark {H : AHeap} {b c : Nat} {cs : List Nat} {d r : List Si} {p : Si} (h : SiRows H b cs (d ++ p :: r)) (hc : cs[d.length]? = some c) (p' : Si) :
    SiRows ((H.set b ⟨32, 4, false, false, (List.zipWith siCells cs (d ++ p :: r)).set d.length (siCells c p')⟩).set c (rowK eI 3 p'.traits)) b cs (d ++ p' :: r) := by
  have hcb : b ≠ c := fun e => h.nb (e ▸ List.mem_of_getElem? hc)
  have hl := h.len
  simp only [List.length_append, List.length_cons] at hl
  refine ⟨by simp [hl], h.nd, h.nb, ?_, fun j c' q hj hq => ?_⟩
  · rw [set_b, if_neg hcb, set_b, if_pos rfl]
    congr 2
    apply List.ext_getElem?
    intro i
    rw [List.getElem?_set]
    by_cases hi : d.length = i
    · subst hi
      have : d.length < (List.zipWith siCells cs (d ++ p :: r)).length := by simp; omega
      simp only [if_true, this, List.getElem?_zipWith, hc]
      simp
    · simp only [hi, if_false, List.getElem?_zipWith]
      have : (d ++ p :: r)[i]? = (d ++ p' :: r)[i]? := by
        rcases Nat.lt_or_ge i d.length with h1 | h1
        · rw [List.getElem?_append_left h1, List.getElem?_append_left h1]
        · rw [List.getElem?_append_right h1, List.getElem?_append_right h1]
          cases hm : i - d.length with
          | zero => omega
          | succ m => rfl
      rw [this]
  · rcases Nat.lt_trichotomy j d.length with h1 | h1 | h1
    · have hne : c' ≠ c := fun e => by
        subst e
        have := (List.getElem?_inj (i := j) (j := d.length) (by omega) h.nd).1 (hj.trans hc.symm)
        omega
      rw [set_b, if_neg hne, set_b, if_neg (fun e => h.nb (by rw [← e]; exact List.mem_of_getElem? hj))]
      refine h.row j c' q hj ?_
      rw [List.getElem?_append_left h1] at hq ⊢
      exact hq
    · subst h1
      rw [hc] at hj
      cases hj
      rw [set_b, if_pos rfl]
      rw [List.getElem?_append_right (Nat.le_refl _)] at hq
      simp at hq
      rw [hq]
    · have hne : c' ≠ c := fun e => by
        subst e
        have h3 := (List.getElem?_eq_some_iff.1 hj).1
        have := (List.getElem?_inj (i := j) (j := d.length) h3 h.nd).1 (hj.trans hc.symm)
        omega
      rw [set_b, if_neg hne, set_b, if_neg (fun e => h.nb (by rw [← e]; exact List.mem_of_getElem? hj))]
      refine h.row j c' q hj ?_
      rw [List.getElem?_append_right (by omega)] at hq ⊢
      cases hm : j - d.length with
      | zero => omega
      | succ m => rw [hm] at hq; exact hq
def q_markSis : Con := fun args H K => match args with
  | [.c (.sl b i n), .c (.int .i64 k)] => Stop (∃ lo hi cs ps, i = 0 ∧ n = ps.length ∧ SiRows H b cs ps ∧ (∀ c ∈ b :: cs, lo ≤ c ∧ c < hi) ∧ ps.length ≤ 1048576 ∧ (∀ p ∈ ps, p.traits.length ≤ 1048576) ∧ 0 < k ∧ endS ps k ≤ 1099511627000 ∧ ∀ H', H'.WF → SubOut lo hi H H' → SiRows H' b cs (mksS ps k) → K (.c (.int .i64 (endS ps k))) H') ()
  | _ => False
@[simp ↓] theorem q_markSis_eq (b i n : Nat) (k : Int) (H : AHeap) (K : AV → AHeap → Prop) : q_markSis [.c (.sl b i n), .c (.int .i64 k)] H K = Stop (∃ lo hi cs ps, i = 0 ∧ n = ps.length ∧ SiRows H b cs ps ∧ (∀ c ∈ b :: cs, lo ≤ c ∧ c < hi) ∧ ps.length ≤ 1048576 ∧ (∀ p ∈ ps, p.traits.length ≤ 1048576) ∧ 0 < k ∧ endS ps k ≤ 1099511627000 ∧ ∀ H', H'.WF → SubOut lo hi H H' → SiRows H' b cs (mksS ps k) → K (.c (.int .i64 (endS ps k))) H') () := rfl
structure MkX where
  H : AHeap
  d : List Si
  k : Int

end Go.Proofs.YtafenginfojcmaaGreatDoor
set_option maxRecDepth 8000
set_option linter.unusedSimpArgs false
set_option linter.unusedVariables false
namespace Go.Proofs.YtafenginfojcmaaGreatDoor
open Go Go.RowKit

set_option maxHeartbeats 4000000
def sid (ps : List Si) (k : Nat) : Int := (ps.getD k default).id
theorem comp_one {e : Nat → Nat → Bool} {n i : Nat} (hi : i < n) (h : (comp e n i).length = 1) : comp e n i = [i] := by
  obtain ⟨x, hx⟩ := List.length_eq_one_iff.1 h
  have hm : i ∈ comp e n i := mem_comp.2 (.refl hi)
  rw [hx] at hm ⊢
  rw [List.mem_singleton.1 hm]
noncomputable def loneTo (ps : List Si) (limit : Int) (k : Nat) : List Int := ((List.range k).filter fun i => decide ((comp (edge ps limit) ps.length i).length = 1)).map (sid ps)
theorem loneTo_0 (ps : List Si) (limit : Int) : loneTo ps limit 0 = [] := rfl
theorem loneTo_yes {ps : List Si} {limit : Int} {k : Nat} (h : (comp (edge ps limit) ps.length k).length = 1) : loneTo ps limit (k + 1) = loneTo ps limit k ++ [sid ps k] := by
  simp [loneTo, List.range_succ, List.filter_append, h]
theorem loneTo_no {ps : List Si} {limit : Int} {k : Nat} (h : ¬ (comp (edge ps limit) ps.length k).length = 1) : loneTo ps limit (k + 1) = loneTo ps limit k := by
  simp [loneTo, List.range_succ, List.filter_append, h]
theorem loneTo_len (ps : List Si) (limit : Int) (k : Nat) : (loneTo ps limit k).length ≤ k := by
  simp only [loneTo, List.length_map]
  have := List.length_filter_le (fun i => decide ((comp (edge ps limit) ps.length i).length = 1)) (List.range k)
  simpa using this
def loneAcc (ps : List Si) (l : List (List Nat)) (o : List Int) : List Int := accM (fun g : List Nat => decide (g.length = 1)) (fun g => sid ps (g.headD 0)) l o
theorem loneAcc_nil (ps : List Si) (o : List Int) : loneAcc ps [] o = o := rfl
theorem loneAcc_one {ps : List Si} {g : List Nat} {x : Nat} (h : g = [x]) (r : List (List Nat)) (o : List Int) : loneAcc ps (g :: r) o = loneAcc ps r (o ++ [sid ps x]) := by subst h; rfl
theorem loneAcc_no {ps : List Si} {g : List Nat} (h : ¬ g.length = 1) (r : List (List Nat)) (o : List Int) : loneAcc ps (g :: r) o = loneAcc ps r o := by simp [loneAcc, accM, h]
/-- the groups of one are the lone ones -/
theorem lone_groups {ps : List Si} {limit : Int} (hs : ∀ x k, x < ps.length → k < ps.length → edge ps limit x k = true → edge ps limit k x = true) :
    loneAcc ps (groupsTo (edge ps limit) ps.length ps.length) [] = loneTo ps limit ps.length := by
  rw [loneAcc, accM_eq, List.nil_append, groupsTo, loneTo, List.filter_map, List.map_map, List.filter_filter]
  have e1 : (List.range ps.length).filter (fun a => ((fun g : List Nat => decide (g.length = 1)) ∘ comp (edge ps limit) ps.length) a && leadB (edge ps limit) ps.length a) = (List.range ps.length).filter fun i => decide ((comp (edge ps limit) ps.length i).length = 1) := by
    apply List.filter_congr
    intro i hi
    have hi' : i < ps.length := List.mem_range.1 hi
    simp only [Function.comp]
    by_cases h1 : (comp (edge ps limit) ps.length i).length = 1
    · have hl : leadB (edge ps limit) ps.length i = true := leadB_t.2 fun j hj hr => by
        have hm := mem_comp.2 (hr.symm hs)
        rw [comp_one hi' h1] at hm
        have := List.mem_singleton.1 hm
        omega
      simp [h1, hl]
    · simp [h1]
  rw [e1]
  apply List.map_congr_left
  intro i hi
  obtain ⟨hi1, hi2⟩ := List.mem_filter.1 hi
  have hi' : i < ps.length := List.mem_range.1 hi1
  simp only [Function.comp, comp_one hi' (of_decide_eq_true hi2), List.headD_cons]
noncomputable def loneRes (ps : List Si) (limit : Int) : List Int × Bool := if areSi ps = true then if inR limit (-30) 16 = true then (loneTo ps limit ps.length, true) else ([], false) else ([], false)
theorem loneRes_len (ps : List Si) (limit : Int) : (loneRes ps limit).1.length ≤ ps.length := by
  unfold loneRes
  split
  · split
    · exact loneTo_len _ _ _
    · simp
  · simp

def q_lone : Con := fun args H K => match args with
  | [ps_v, .c (.int .i64 limit)] => eSi.rd H (fun ps => (∀ p ∈ ps, p.traits.length ≤ 1048576) ∧ K (.tup [.c (.sl (H.n) (0) ((loneRes ps limit).1.length)), .c (.bool ((loneRes ps limit).2))]) (H.push (rowK eI 3 (loneRes ps limit).1))) ps_v
  | _ => False
@[simp ↓] theorem q_lone_eq (ps_v : AV) (limit : Int) (H : AHeap) (K : AV → AHeap → Prop) : q_lone [ps_v, .c (.int .i64 limit)] H K = (eSi.rd H (fun ps => (∀ p ∈ ps, p.traits.length ≤ 1048576) ∧ K (.tup [.c (.sl (H.n) (0) ((loneRes ps limit).1.length)), .c (.bool ((loneRes ps limit).2))]) (H.push (rowK eI 3 (loneRes ps limit).1))) ps_v) := rfl

end Go.Proofs.YtafenginfojcmaaGreatDoor
set_option maxRecDepth 8000
set_option linter.unusedSimpArgs false
set_option linter.unusedVariables false
namespace Go.Proofs.YtafenginfojcmaaGreatDoor
open Go Go.RowKit

set_option maxHeartbeats 1000000
/-- slices.Sort, at no element too -/
def q_sortA : Con := fun args H K => match args with
  | [.c .nils] => K (.tup []) H
  | [.c (.sl b i n)] => if n = 0 then K (.tup []) H else onv (H.b b) fun kb => i = 0 ∧ n ≤ 1000000 ∧ kb.ro = false ∧ kb.esz = 1 ∧ kb.els.length = n ∧ onv (eI.decL kb.els) fun zs => K (.tup []) (H.set b (reK kb ((sortI zs).map eI.cells)))
  | _ => False
@[simp ↓] theorem q_sortA_nils (H : AHeap) (K : AV → AHeap → Prop) : q_sortA [.c .nils] H K = K (.tup []) H := rfl
@[simp ↓] theorem q_sortA_eq (b i n : Nat) (H : AHeap) (K : AV → AHeap → Prop) : q_sortA [.c (.sl b i n)] H K = if n = 0 then K (.tup []) H else onv (H.b b) fun kb => i = 0 ∧ n ≤ 1000000 ∧ kb.ro = false ∧ kb.esz = 1 ∧ kb.els.length = n ∧ onv (eI.decL kb.els) fun zs => K (.tup []) (H.set b (reK kb ((sortI zs).map eI.cells))) := rfl
theorem sort_none {a : Option Addr} {cap : Nat} (w : World) : Calls Tryz.prog 45 #[.slice a 0 cap] w fun e w' => e = .returned (.tuple #[]) ∧ w' = w := Tryz.slices_Sort_int_none a cap w
theorem slices_SortA_s : Sound Tryz.prog 45 q_sortA := by
  intro args H K h
  unfold q_sortA at h
  split at h
  rotate_left
  · rename_i b i n
    by_cases hn : n = 0
    · subst hn
      rw [if_pos rfl] at h
      refine ⟨fun args w => enters_of Tryz.func45 (by kernel_rfl) rfl args w, fun φ B w vs hH hr => ?_⟩
      obtain ⟨v, rfl⟩ : ∃ v, vs = [v] := by
        match vs, hr with
        | [v], _ => exact ⟨v, rfl⟩
        | [], hr => exact hr.elim
        | _ :: _ :: _, hr => exact hr.2.elim
      obtain ⟨hb, a, cap, rfl, _⟩ := hr.1
      refine (sort_none w).mono ?_
      rintro e w' ⟨rfl, rfl⟩
      exact ⟨.tup [], _, φ, H, rfl, ⟨[], rfl, trivial⟩, hH, .refl _ _, Nat.le_refl _, fun _ _ => rfl, h⟩
    · rw [if_neg hn] at h
      refine slices_Sort___int_int_s _ H K ?_
      have h1 := onv_iff.1 h
      obtain ⟨kb, hk, h2, h3, h4, h5, h6, h7⟩ := h1
      rw [q_sort_eq]
      exact onv_iff.2 ⟨kb, hk, h2, by omega, h3, h4, h5, h6, h7⟩
  · exact h.elim
  · refine ⟨fun args w => enters_of Tryz.func45 (by kernel_rfl) rfl args w, fun φ B w vs hH hr => ?_⟩
    obtain ⟨v, rfl⟩ : ∃ v, vs = [v] := by
      match vs, hr with
      | [v], _ => exact ⟨v, rfl⟩
      | [], hr => exact hr.elim
      | _ :: _ :: _, hr => exact hr.2.elim
    obtain ⟨a, rfl⟩ := hr.1
    refine (sort_none w).mono ?_
    rintro e w' ⟨rfl, rfl⟩
    exact ⟨.tup [], _, φ, H, rfl, ⟨[], rfl, trivial⟩, hH, .refl _ _, Nat.le_refl _, fun _ _ => rfl, h⟩
/-- slices.Compact: what is cut off is forgotten -/
def q_compact : Con := fun args H K => match args with
  | [.c (.sl b i n)] => if n = 0 then K (.c (.sl b i 0)) H else onv (H.b b) fun kb => i = 0 ∧ n ≤ 1000000 ∧ kb.ro = false ∧ kb.esz = 1 ∧ kb.els.length = n ∧ onv (eI.decL kb.els) fun zs => K (.c (.sl b 0 (Lib.compact zs).length)) (H.set b (reK kb ((Lib.compact zs).map eI.cells)))
  | _ => False
@[simp ↓] theorem q_compact_eq (b i n : Nat) (H : AHeap) (K : AV → AHeap → Prop) : q_compact [.c (.sl b i n)] H K = if n = 0 then K (.c (.sl b i 0)) H else onv (H.b b) fun kb => i = 0 ∧ n ≤ 1000000 ∧ kb.ro = false ∧ kb.esz = 1 ∧ kb.els.length = n ∧ onv (eI.decL kb.els) fun zs => K (.c (.sl b 0 (Lib.compact zs).length)) (H.set b (reK kb ((Lib.compact zs).map eI.cells))) := rfl
theorem compact_none {a : Option Addr} {cap : Nat} (w : World) : Calls Tryz.prog 46 #[.slice a 0 cap] w fun e w' => e = .returned (.slice a 0 cap) ∧ w' = w := Tryz.slices_Compact_int_empty a cap w
theorem slices_Compact_s : Sound Tryz.prog 46 q_compact := by
  intro args H K h
  unfold q_compact at h
  split at h
  rotate_left
  · exact h.elim
  rename_i b i n
  by_cases hn : n = 0
  · subst hn
    rw [if_pos rfl] at h
    refine ⟨fun args w => enters_of Tryz.func46 (by kernel_rfl) rfl args w, fun φ B w vs hH hr => ?_⟩
    obtain ⟨v, rfl⟩ : ∃ v, vs = [v] := by
      match vs, hr with
      | [v], _ => exact ⟨v, rfl⟩
      | [], hr => exact hr.elim
      | _ :: _ :: _, hr => exact hr.2.elim
    obtain ⟨hb, a, cap, rfl, hr2⟩ := hr.1
    refine (compact_none w).mono ?_
    rintro e w' ⟨rfl, rfl⟩
    exact ⟨.c (.sl b i 0), _, φ, H, rfl, ⟨hb, a, cap, rfl, hr2⟩, hH, .refl _ _, Nat.le_refl _, fun _ _ => rfl, h⟩
  rw [if_neg hn] at h
  have h1 := onv_iff.1 h
  clear h
  obtain ⟨kb, hk, rfl, hn2, hro, hesz, hlen, h⟩ := h1
  have h1 := onv_iff.1 h
  clear h
  obtain ⟨zs, hz, h⟩ := h1
  have he := Enc.decL_eq eI hz
  have hzl : zs.length = n := by rw [← hlen, he, List.length_map]
  refine ⟨fun args w => enters_of Tryz.func46 (by kernel_rfl) rfl args w, fun φ B w vs hH hr => ?_⟩
  obtain ⟨v, rfl⟩ : ∃ v, vs = [v] := by
    match vs, hr with
    | [v], _ => exact ⟨v, rfl⟩
    | [], hr => exact hr.elim
    | _ :: _ :: _, hr => exact hr.2.elim
  obtain ⟨hb, a, cap, rfl, hcap, hcap2, ha⟩ := hr.1
  obtain rfl := ha (by omega)
  have hphi : 0 < (φ b).cap := by omega
  have hown := hH.own b kb hk hro hphi
  have hc := hH.cells b kb hk
  obtain ⟨cs, fz, hrow, hsz, hfz, hfr⟩ := hown.row
  have hesz' : (φ b).esz = 1 := hc.esz.trans hesz
  have hcc := hc.cap
  rw [hesz', Nat.mul_one] at hsz
  have hadr : ∀ j, (φ b).adr j 0 = ⟨(φ b).blk, 0 + j, none⟩ := fun j => by simp [Place.adr, hown.off, hesz']
  have hcell : ∀ j (hj : j < zs.length), w.cell? ⟨(φ b).blk, 0 + j, none⟩ = some (.int .i64 zs[j]) := fun j hj => by
    obtain ⟨v, h1, h2⟩ := hc.cell j (eI.cells zs[j]) (by rw [he, List.getElem?_map, List.getElem?_eq_getElem hj]; rfl) 0 (.int .i64 zs[j]) rfl
    rw [hadr] at h1
    rw [h1, show v = .int .i64 zs[j] from h2]
  have hHo : Go.Sort.Holds (Value.int .i64) w (φ b).blk 0 zs.toArray := fun j hj => by
    have hj' : j < zs.length := by simpa using hj
    refine ⟨by rw [hcell j hj']; simp [hj'], ?_⟩
    have := hfr j (by omega)
    simp only [World.frozen?, hrow, Nat.zero_add]
    simpa using this
  have hblk : (φ b).blk < w.heap.size := (Array.getElem?_eq_some_iff.1 hrow).1
  rw [hadr 0]
  have hcl := Lib.compact_length_le zs
  have main := Tryz.slices_Compact_int (φ b).blk 0 cap zs w hHo (by omega) (by omega)
  rw [hzl] at main
  refine main.mono ?_
  rintro e w' ⟨rfl, m, rfl⟩
  have hyl : (Lib.compact zs ++ List.replicate (n - (Lib.compact zs).length) 0).length = zs.length := by simp; omega
  have hlow : ∀ i (hi : i < (Lib.compact zs).length), (Lib.compact zs ++ List.replicate (n - (Lib.compact zs).length) (0 : Int))[i]? = some (Lib.compact zs)[i] := fun i hi => by rw [List.getElem?_append_left hi, List.getElem?_eq_getElem hi]
  generalize hys : (Lib.compact zs ++ List.replicate (n - (Lib.compact zs).length) (0 : Int)) = ys at hyl hlow
  have hoth : ∀ c, c ≠ (φ b).blk → (Go.Sort.putRow (Value.int .i64) (Go.Sort.ahead w m) (φ b).blk 0 ys.toArray).heap[c]? = w.heap[c]? := fun c hc' => by
    simp [Go.Sort.putRow, Go.Sort.mapBlock, Go.Sort.ahead, Array.getElem?_modify, Ne.symm hc']
  have hrow1 : (Go.Sort.putRow (Value.int .i64) (Go.Sort.ahead w m) (φ b).blk 0 ys.toArray).heap[(φ b).blk]? = some (.cells (Go.Sort.putCells (Value.int .i64) 0 ys.toArray cs) kb.ty fz) := by
    simp [Go.Sort.putRow, Go.Sort.mapBlock, Go.Sort.ahead, Array.getElem?_modify, hrow, Go.Sort.onCells]
  have hsz1 : (Go.Sort.putRow (Value.int .i64) (Go.Sort.ahead w m) (φ b).blk 0 ys.toArray).heap.size = w.heap.size := by simp [Go.Sort.ahead]
  have hbl : Kept B w (Go.Sort.putRow (Value.int .i64) (Go.Sort.ahead w m) (φ b).blk 0 ys.toArray) :=
    ⟨⟨rfl, rfl, rfl, by rw [hsz1]; exact Nat.le_refl _, fun k hk' => hoth k (by have := hown.base; omega)⟩, fun c hc' => hoth c fun e => hown.out (e ▸ hc')⟩
  have hc' : BCells φ H.n (φ b) (reK kb ((Lib.compact zs).map eI.cells)) (Go.Sort.putRow (Value.int .i64) (Go.Sort.ahead w m) (φ b).blk 0 ys.toArray) := by
    refine ⟨hc.esz, by simp only [reK_els, List.length_map]; omega, fun i e hi => ?_, fun i e hi j x hx => ?_⟩
    · simp only [reK_els, List.getElem?_map, Option.map_eq_some_iff] at hi
      obtain ⟨y, _, rfl⟩ := hi
      rw [reK_esz, hesz]; rfl
    · simp only [reK_els, List.getElem?_map, Option.map_eq_some_iff] at hi
      obtain ⟨y, hy, rfl⟩ := hi
      obtain ⟨hiy, rfl⟩ := List.getElem?_eq_some_iff.1 hy
      have hl := hlow i hiy
      obtain ⟨hiy2, hl2⟩ := List.getElem?_eq_some_iff.1 hl
      match j, hx with
      | 0, hx =>
        cases hx
        refine ⟨.int .i64 ys[i], ?_, by rw [hl2]; rfl⟩
        rw [hadr, Go.Sort.cell?_putRow (Value.int .i64) (Go.Sort.ahead w m) (φ b).blk 0 zs.toArray ys.toArray hHo (by simp [hyl]) i (by simpa using hiy2)]
        simp [hiy2]
      | j + 1, hx => cases hx
  have hH1 := hH.stored (k' := reK kb ((Lib.compact zs).map eI.cells)) hk hro hphi rfl rfl hro hsz1 hoth hrow1 ⟨cs, hrow, by simp [Go.Sort.putCells]⟩ hbl hc'
  exact ⟨.c (.sl b 0 (Lib.compact zs).length), _, φ, H.set b (reK kb ((Lib.compact zs).map eI.cells)), rfl, ⟨hb, _, cap, rfl, by omega, hcap2, fun _ => by rw [hadr 0]⟩, hH1, hbl, Nat.le_refl _, fun _ _ => rfl, h⟩
/-! ### rising rows -/
theorem up_extI : ∀ {L M : List Int}, L.Pairwise (· < ·) → M.Pairwise (· < ·) → (∀ k, k ∈ L ↔ k ∈ M) → L = M
  | [], [], _, _, _ => rfl
  | [], m :: M, _, _, h => absurd ((h m).2 (by simp)) (by simp)
  | l :: L, [], _, _, h => absurd ((h l).1 (by simp)) (by simp)
  | l :: L, m :: M, hl, hm, h => by
    rw [List.pairwise_cons] at hl hm
    have h1 := (h l).1 (by simp)
    have h2 := (h m).2 (by simp)
    have hlm : l = m := by
      rcases List.mem_cons.1 h1 with rfl | h1
      · rfl
      · rcases List.mem_cons.1 h2 with rfl | h2
        · rfl
        · have := hm.1 l h1
          have := hl.1 m h2
          omega
    subst hlm
    rw [up_extI hl.2 hm.2 fun k => ⟨fun hk => ?_, fun hk => ?_⟩]
    · rcases List.mem_cons.1 ((h k).1 (by simp [hk])) with rfl | h3
      · exact absurd (hl.1 k hk) (Int.lt_irrefl k)
      · exact h3
    · rcases List.mem_cons.1 ((h k).2 (by simp [hk])) with rfl | h3
      · exact absurd (hm.1 k hk) (Int.lt_irrefl k)
      · exact h3
theorem sortI_up (zs : List Int) : (sortI zs).Pairwise (· ≤ ·) := by
  have hs : (sortI zs).Pairwise (fun x y => decide (x ≤ y) = true) := List.pairwise_mergeSort (fun a b c h1 h2 => by simp only [decide_eq_true_eq] at *; omega) (fun a b => by simp only [Bool.or_eq_true, decide_eq_true_eq]; omega) _
  exact hs.imp fun {a b} h => by simpa using h
theorem sortI_mem (zs : List Int) (x : Int) : x ∈ sortI zs ↔ x ∈ zs := (List.mergeSort_perm _ _).mem_iff
/-- of a row in order: each number once -/
theorem compact_up {zs : List Int} (h : zs.Pairwise (· ≤ ·)) : (Lib.compact zs).Pairwise (· < ·) ∧ ∀ x, x ∈ Lib.compact zs ↔ x ∈ zs := by
  have hle : ∀ i j, i ≤ j → j < zs.length → zs.toArray[i]! ≤ zs.toArray[j]! := fun i j hij hj => by
    have hi : i < zs.length := by omega
    have e1 : zs.toArray[i]! = zs[i] := by simp [hi]
    have e2 : zs.toArray[j]! = zs[j] := by simp [hj]
    rw [e1, e2]
    rcases Nat.lt_or_ge i j with h1 | h1
    · exact List.pairwise_iff_getElem.1 h i j hi hj h1
    · obtain rfl : i = j := by omega
      exact Int.le_refl _
  have main : ∀ m, m ≤ zs.length → (Lib.compactUpTo zs.toArray m).Pairwise (· < ·) ∧ ∀ x, x ∈ Lib.compactUpTo zs.toArray m ↔ ∃ j, j < m ∧ zs.toArray[j]! = x := by
    intro m
    induction m with
    | zero => exact fun _ => ⟨by simp [Lib.compactUpTo], fun x => by simp [Lib.compactUpTo]⟩
    | succ m ih =>
      intro hm
      obtain ⟨h1, h2⟩ := ih (by omega)
      rw [Lib.compactUpTo_succ]
      by_cases hk : Lib.keeps zs.toArray m = true
      · rw [if_pos hk]
        refine ⟨List.pairwise_append.2 ⟨h1, by simp, fun a ha b hb => ?_⟩, fun x => ?_⟩
        · rw [List.mem_singleton.1 hb]
          obtain ⟨j, hj, rfl⟩ := (h2 a).1 ha
          have g1 := hle j (m - 1) (by omega) (by omega)
          have g2 := hle (m - 1) m (by omega) (by omega)
          have g3 : zs.toArray[m]! ≠ zs.toArray[m - 1]! := fun e => by
            rw [Lib.keeps_neg (by omega) e] at hk; cases hk
          omega
        · rw [List.mem_append, List.mem_singleton, h2]
          constructor
          · rintro (⟨j, hj, rfl⟩ | rfl)
            · exact ⟨j, by omega, rfl⟩
            · exact ⟨m, by omega, rfl⟩
          · rintro ⟨j, hj, rfl⟩
            rcases Nat.lt_or_ge j m with g | g
            · exact .inl ⟨j, g, rfl⟩
            · exact .inr (by rw [show j = m by omega])
      · rw [if_neg hk]
        simp only [List.append_nil]
        refine ⟨h1, fun x => (h2 x).trans ⟨fun ⟨j, hj, e⟩ => ⟨j, by omega, e⟩, fun ⟨j, hj, e⟩ => ?_⟩⟩
        rcases Nat.lt_or_ge j m with g | g
        · exact ⟨j, g, e⟩
        · obtain rfl : j = m := by omega
          have h0 : 0 < j := by
            rcases Nat.eq_zero_or_pos j with rfl | h0
            · exact absurd (Lib.keeps_lt_one _ 0 (by omega)) hk
            · exact h0
          refine ⟨j - 1, by omega, ?_⟩
          rw [← e]
          by_cases hne : zs.toArray[j]! = zs.toArray[j - 1]!
          · exact hne.symm
          · exact absurd (Lib.keeps_pos hne) hk
  obtain ⟨h1, h2⟩ := main zs.length (Nat.le_refl _)
  refine ⟨h1, fun x => (h2 x).trans ⟨fun ⟨j, hj, e⟩ => ?_, fun hx => ?_⟩⟩
  · rw [← e]; simp [hj]
  · obtain ⟨j, hj, rfl⟩ := List.getElem_of_mem hx
    exact ⟨j, hj, by simp [hj]⟩
theorem putI_cons (x n : Int) (r : List Int) : putI (x :: r) n = if x < n then x :: putI r n else if x = n then x :: r else n :: x :: r := by
  by_cases h1 : x < n
  · have h2 : ltI n x = true := by simp [ltI, h1]
    have h3 : hasP (x :: r) n = hasP r n := by simp [hasP, List.dropWhile_cons, h2]
    rw [if_pos h1, putI, putI, h3]
    split
    · rfl
    · simp [List.takeWhile_cons, List.dropWhile_cons, h2]
  · have h2 : ltI n x = false := by simp [ltI, h1]
    rw [if_neg h1]
    by_cases h3 : x = n
    · have h4 : hasP (x :: r) n = true := by subst h3; simp [hasP, List.dropWhile_cons, h2]
      rw [if_pos h3, putI, if_pos h4]
    · have h4 : hasP (x :: r) n = false := by simp [hasP, List.dropWhile_cons, h2, h3]
      rw [if_neg h3, putI, if_neg (by simp [h4])]
      simp [List.takeWhile_cons, List.dropWhile_cons, h2]
theorem putI_mem (n : Int) : ∀ (l : List Int) (x : Int), x ∈ putI l n ↔ x ∈ l ∨ x = n
  | [], x => by simp [putI, hasP]
  | y :: r, x => by
    rw [putI_cons]
    split
    · simp [putI_mem n r x, or_assoc]
    · split
      · rename_i h; subst h; simp; intro e; exact .inl e
      · simp only [List.mem_cons]; constructor
        · exact fun h => h.elim .inr fun h => .inl h
        · exact fun h => h.elim .inr .inl
theorem putI_up (n : Int) : ∀ {l : List Int}, l.Pairwise (· < ·) → (putI l n).Pairwise (· < ·)
  | [], _ => by simp [putI, hasP]
  | y :: r, h => by
    rw [putI_cons]
    rw [List.pairwise_cons] at h
    split
    · rename_i h1
      refine List.pairwise_cons.2 ⟨fun z hz => ?_, putI_up n h.2⟩
      rcases (putI_mem n r z).1 hz with hz | rfl
      · exact h.1 z hz
      · exact h1
    · split
      · exact List.pairwise_cons.2 h
      · rename_i h1 h2
        refine List.pairwise_cons.2 ⟨fun z hz => ?_, List.pairwise_cons.2 h⟩
        rcases List.mem_cons.1 hz with rfl | hz
        · omega
        · have := h.1 z hz; omega
/-- all numbers put to their places -/
def putAll : List Int → List Int → List Int
  | [], o => o
  | x :: r, o => putAll r (putI o x)
theorem putAll_up : ∀ (l : List Int) {o : List Int}, o.Pairwise (· < ·) → (putAll l o).Pairwise (· < ·) ∧ ∀ x, x ∈ putAll l o ↔ x ∈ o ∨ x ∈ l
  | [], o, h => ⟨h, fun x => by simp [putAll]⟩
  | y :: r, o, h => by
    obtain ⟨h1, h2⟩ := putAll_up r (putI_up y h)
    refine ⟨h1, fun x => (h2 x).trans ?_⟩
    rw [putI_mem, List.mem_cons, or_assoc]
theorem compact_putAll (l : List Int) : Lib.compact (sortI l) = putAll l [] := by
  obtain ⟨h1, h2⟩ := compact_up (sortI_up l)
  obtain ⟨h3, h4⟩ := putAll_up l (o := []) (by simp)
  exact up_extI h1 h3 fun k => by rw [h2, sortI_mem, h4]; simp
theorem putI_len (l : List Int) (n : Int) : (putI l n).length ≤ l.length + 1 := by
  induction l with
  | nil => simp [putI, hasP]
  | cons y r ih =>
    rw [putI_cons]
    split
    · simp only [List.length_cons]; omega
    · split <;> simp

end Go.Proofs.YtafenginfojcmaaGreatDoor
set_option maxRecDepth 8000
set_option linter.unusedSimpArgs false
set_option linter.unusedVariables false
namespace Go.Proofs.YtafenginfojcmaaGreatDoor
open Go Go.RowKit

set_option maxHeartbeats 4000000
def trt (ps : List Si) (k : Nat) : List Int := (ps.getD k default).traits
def trAll (ps : List Si) (L : List Nat) : List Int := (L.map (trt ps)).flatten
theorem trAll_nil (ps : List Si) : trAll ps [] = [] := rfl
theorem trAll_cons (ps : List Si) (k : Nat) (r : List Nat) : trAll ps (k :: r) = trt ps k ++ trAll ps r := by simp [trAll]
theorem trAll_len {ps : List Si} (h : ∀ p ∈ ps, p.traits.length ≤ 8) : ∀ (L : List Nat), (∀ k ∈ L, k < ps.length) → (trAll ps L).length ≤ 8 * L.length
  | [], _ => by simp [trAll]
  | k :: r, hk => by
    have h1 := trAll_len h r fun x hx => hk x (by simp [hx])
    have h2 : k < ps.length := hk k (by simp)
    have h3 := h ps[k] (List.getElem_mem h2)
    have h4 : trt ps k = ps[k].traits := by simp [trt, List.getD_eq_getElem?_getD, h2]
    rw [trAll_cons, List.length_append, h4, List.length_cons]
    omega
theorem putAll_len : ∀ (l o : List Int), (putAll l o).length ≤ o.length + l.length
  | [], o => by simp [putAll]
  | x :: r, o => by
    have h1 := putAll_len r (putI o x)
    have h2 := putI_len o x
    rw [putAll, List.length_cons]
    omega
noncomputable def trRes (ps : List Si) (limit id : Int) : List Int × Bool := if areSi ps = true then if inR limit (-30) 16 = true then if ixOf (fun s : Si => decide (s.id = id)) ps 0 < 0 then ([], false)
  else (putAll (trAll ps (comp (edge ps limit) ps.length (ixOf (fun s : Si => decide (s.id = id)) ps 0).toNat)) [], true)
  else ([], false) else ([], false)
theorem comp_len (e : Nat → Nat → Bool) (n i : Nat) : (comp e n i).length ≤ n := nodup_len _ _ (comp_up.imp fun {a b} h => by omega) fun x hx => (mem_comp.1 hx).lt
theorem trRes_len (ps : List Si) (limit id : Int) : (trRes ps limit id).1.length ≤ 1048576 := by
  unfold trRes
  split
  · rename_i hv
    split
    · split
      · simp
      · have h1 := trAll_len (fun p hp => (areSi_b hv p hp).2.2.2.2) (comp (edge ps limit) ps.length (ixOf (fun s : Si => decide (s.id = id)) ps 0).toNat) fun x hx => (mem_comp.1 hx).lt
        have h2 := putAll_len (trAll ps (comp (edge ps limit) ps.length (ixOf (fun s : Si => decide (s.id = id)) ps 0).toNat)) []
        have h3 := comp_len (edge ps limit) ps.length (ixOf (fun s : Si => decide (s.id = id)) ps 0).toNat
        have h4 := areSi_len hv
        simp only [List.length_nil] at h2
        simp only
        omega
    · simp
  · simp
structure TX where
  H : AHeap
  b : Nat
  out : List Int
structure TX.Ok (x : TX) (H1 : AHeap) (n0 b1 : Nat) : Prop where
  sub : Sub H1 x.H
  row : x.H.b x.b = some (rowK eI 3 x.out)
  ge : n0 ≤ x.b

def q_tr : Con := fun args H K => match args with
  | [ps_v, .c (.int .i64 limit), .c (.int .i64 id)] => eSi.rd H (fun ps => (∀ p ∈ ps, p.traits.length ≤ 1048576) ∧ K (.tup [.c (.sl (H.n) (0) ((trRes ps limit id).1.length)), .c (.bool ((trRes ps limit id).2))]) (H.push (rowK eI 3 (trRes ps limit id).1))) ps_v
  | _ => False
@[simp ↓] theorem q_tr_eq (ps_v : AV) (limit : Int) (id : Int) (H : AHeap) (K : AV → AHeap → Prop) : q_tr [ps_v, .c (.int .i64 limit), .c (.int .i64 id)] H K = (eSi.rd H (fun ps => (∀ p ∈ ps, p.traits.length ≤ 1048576) ∧ K (.tup [.c (.sl (H.n) (0) ((trRes ps limit id).1.length)), .c (.bool ((trRes ps limit id).2))]) (H.push (rowK eI 3 (trRes ps limit id).1))) ps_v) := rfl

theorem impl_TraitsSeen_s : Sound Tryz.prog 14 q_tr := by
  intro args H K h
  unfold q_tr at h
  split at h
  rotate_left
  all_goals first | exact False.elim h | skip
  rename_i ps_v limit id
  have h1 := EncH.rd_at h
  clear h
  obtain ⟨b_ps, i_ps, k_ps, ps, rfl, hat_ps, h⟩ := h1
  have hE := soundE_cons impl_areSightings_s (soundE_cons impl_inRange_s (soundE_cons impl_sightingAt_s (soundE_cons impl_groupWith_s (soundE_cons slices_SortA_s (soundE_cons slices_Compact_s (soundE_nil (P := Tryz.prog)))))))
  refine acalls_fn impl_TraitsSeen_k hE ⟨by simp, fun hwf => ?_⟩
  obtain ⟨hsr, hsp, hst, hss, hsk⟩ := hs_of hwf
  have hon_ps := hat_ps.on
  have hb_ps : b_ps < H.n := (hwf b_ps k_ps hat_ps.blk).1
  have hne_ps : (b_ps = H.n) = False := eq_false (by omega)
  have hne1_ps : ∀ i, (b_ps = H.n + i) = False := fun i => eq_false (by omega)
  have hne2_ps := ne2_of (a := b_ps) (b := H.n) (by omega)
  have hmx_ps : ps.length ≤ 9223372036854775807 := by have h1 := (hwf b_ps k_ps hat_ps.blk).2.2; have h2 := hat_ps.len; omega
  obtain ⟨hl, h⟩ := h
  unfold trRes at h
  by_cases hv : areSi ps = true
  rotate_left
  · simp (config := {contextual := true, implicitDefEqProofs := false, maxSteps := 2000000}) [-Int.not_le, -Int.not_lt, argsF, impl_TraitsSeen_c, hat_ps.blk, hat_ps.esz, hat_ps.len, hon_ps, hne_ps, hne1_ps, hne2_ps, hsr, hsp, hst, hss, hsk, hv]
    simp only [hv, if_false, reduceCtorEq] at h
    exact (.one (c := none) hwf (by (repeat first | exact Sub.refl _ | refine Sub.push hwf ?_ _ | refine Sub.set hwf ?_ (by first | exact Nat.le_refl _ | omega | (simp only [push_n, set_n, kill_n]; omega)) _ | refine Sub.kill hwf ?_ (by first | exact Nat.le_refl _ | omega | (simp only [push_n, set_n, kill_n]; omega)))) ⟨rfl, rfl⟩ (plain_map (fun _ => rfl) _) (by simp [frOk, AV.okR, AV.ok1, AC.okR, AV.ren, AV.ren1, AC.ren, AFrame.get, pl1_old, *]; first | done | rfl | omega) h)
  simp only [hv, if_true] at h
  by_cases hr : inR limit (-30) 16 = true
  rotate_left
  · simp (config := {contextual := true, implicitDefEqProofs := false, maxSteps := 2000000}) [-Int.not_le, -Int.not_lt, argsF, impl_TraitsSeen_c, hat_ps.blk, hat_ps.esz, hat_ps.len, hon_ps, hne_ps, hne1_ps, hne2_ps, hsr, hsp, hst, hss, hsk, hv, hr]
    simp only [hr, if_false, reduceCtorEq] at h
    exact (.one (c := none) hwf (by (repeat first | exact Sub.refl _ | refine Sub.push hwf ?_ _ | refine Sub.set hwf ?_ (by first | exact Nat.le_refl _ | omega | (simp only [push_n, set_n, kill_n]; omega)) _ | refine Sub.kill hwf ?_ (by first | exact Nat.le_refl _ | omega | (simp only [push_n, set_n, kill_n]; omega)))) ⟨rfl, rfl⟩ (plain_map (fun _ => rfl) _) (by simp [frOk, AV.okR, AV.ok1, AC.okR, AV.ren, AV.ren1, AC.ren, AFrame.get, pl1_old, *]; first | done | rfl | omega) h)
  simp only [hr, if_true] at h
  rcases ixOf_find (fun s : Si => decide (s.id = id)) ps with ⟨e1, _⟩ | ⟨m, hm, e1, _⟩
  · rw [e1] at h
    simp (config := {contextual := true, implicitDefEqProofs := false, maxSteps := 2000000}) [-Int.not_le, -Int.not_lt, argsF, impl_TraitsSeen_c, hat_ps.blk, hat_ps.esz, hat_ps.len, hon_ps, hne_ps, hne1_ps, hne2_ps, hsr, hsp, hst, hss, hsk, hv, hr, e1]
    simp only [show ((-1 : Int) < 0) = True from eq_true (by omega), if_true] at h
    exact (.one (c := none) hwf (by (repeat first | exact Sub.refl _ | refine Sub.push hwf ?_ _ | refine Sub.set hwf ?_ (by first | exact Nat.le_refl _ | omega | (simp only [push_n, set_n, kill_n]; omega)) _ | refine Sub.kill hwf ?_ (by first | exact Nat.le_refl _ | omega | (simp only [push_n, set_n, kill_n]; omega)))) ⟨rfl, rfl⟩ (plain_map (fun _ => rfl) _) (by simp [frOk, AV.okR, AV.ok1, AC.okR, AV.ren, AV.ren1, AC.ren, AFrame.get, pl1_old, *]; first | done | rfl | omega) h)
  have hm0 : ((m : Int) < 0) = False := eq_false (by omega)
  have hm1 : (0 ≤ (m : Int)) = True := eq_true (by omega)
  have hmi : ((m : Int) < (ps.length : Int)) = True := eq_true (by omega)
  rw [e1] at h
  simp only [hm0, if_false, Int.toNat_natCast] at h
  have hpl := areSi_len hv
  have hall : ∀ x ∈ comp (edge ps limit) ps.length m, x < ps.length := fun x hx => (mem_comp.1 hx).lt
  have hcl := comp_len (edge ps limit) ps.length m
  have htl := trAll_len (fun p hp => (areSi_b hv p hp).2.2.2.2) _ hall

  have hsym := edge_sym (limit := limit) (areSi_nd hv)
  simp (config := {contextual := true, implicitDefEqProofs := false, maxSteps := 2000000}) [-Int.not_le, -Int.not_lt, argsF, impl_TraitsSeen_c, hat_ps.blk, hat_ps.esz, hat_ps.len, hon_ps, hne_ps, hne1_ps, hne2_ps, hsr, hsp, hst, hss, hsk, hv, hr, e1, hm0, hm1, hpl, hl, hsym]
  refine Stop.mk fun H1 b1 o1 k1 hw1 hs1 hat1 => ?_
  simp only [e1, Int.toNat_natCast] at hat1
  have hn1 : H.n ≤ H1.n := hs1.1.1
  have hb1 : b1 < H1.n := (hw1 _ _ hat1.blk).1
  have hbp : b_ps < H1.n := by omega
  have q1 : (b1 = H1.n) = False := eq_false (by omega)
  have q3 : (b_ps = H1.n) = False := eq_false (by omega)
  rw [← compact_putAll] at h
  generalize hL : comp (edge ps limit) ps.length m = L at h hat1 hall hcl htl
  simp (config := {contextual := true, implicitDefEqProofs := false, maxSteps := 2000000}) [-Int.not_le, -Int.not_lt, argsF, e1, hL]
  refine aloop_list L (fun j (out : List Int) => [(0, .c (.sl b_ps i_ps ps.length)), (8, .c (.sl (H1.n) (0) (out.length))), (28, .c (.sl (b1) (o1) (L.length))), (29, .c (.int .i64 L.length)), (30, .c (.int .i64 (j)))]) (fun j (out : List Int) => H1.push (rowK eI 3 out)) (fun j l (out : List Int) => out ++ trAll ps l = trAll ps L) hE _ [] (by simp) (.le hn1 (.one (c := none) hw1 (.refl _) ⟨rfl, rfl⟩ (plain_map (fun _ => rfl) _) (by simp [frOk, AV.okR, AV.ok1, AC.okR, AV.ren, AV.ren1, AC.ren, AFrame.get, pl1_old, *]; first | done | rfl | omega))) (fun j out hlt hi => ?_) fun out hi => ?_
  · have hLj := hall _ (List.getElem_mem hlt)
    have hj1 := idx_lt hlt
    have w1 : IntKind.i64.wrap ((j : Int) + 1) = (j : Int) + 1 := wrap_id (by omega) (by omega)
    have hat_ps : eSi.At H1 b_ps i_ps k_ps ps := hat_ps.sub hs1
    have hwf0 := hwf
    have hwf := hw1
    obtain ⟨ex_u, e_u, hd_u⟩ := hat_ps.get hLj
    obtain ⟨b_u, i_u, k_u, rfl, hat_u, htx_u⟩ := eSi_at hd_u
    have hb_u : b_u < H1.n := (hwf b_u k_u hat_u.blk).1
    have hne_u : (b_u = H1.n) = False := eq_false (by omega)
    have hne1_u : ∀ i, (b_u = H1.n + i) = False := fun i => eq_false (by omega)
    have hne2_u := ne2_of (a := b_u) (b := H1.n) (by omega)
    have er := hat1.get (j := j) (by rw [nats_len]; exact hlt)
    rw [show (nats L)[j]'(by rw [nats_len]; exact hlt) = (L[j] : Int) by simp [nats]] at er
    have hLi : ((L[j] : Int) < (ps.length : Int)) = True := eq_true (by omega)
    have htu : trt ps L[j] = ps[L[j]].traits := by simp [trt, List.getD_eq_getElem?_getD, hLj]
    rw [trAll_cons, htu] at hi
    have hll := congrArg List.length hi
    simp only [List.length_append] at hll
    have hb1' : (out.length + ps[L[j]].traits.length) * 8 ≤ 140737488355328 := by omega
    have hb2' : out.length + ps[L[j]].traits.length ≤ 140737488355328 := by omega
    simp (config := {contextual := true, implicitDefEqProofs := false, maxSteps := 2000000}) [-Int.not_le, -Int.not_lt, argsF, impl_TraitsSeen_l0, hj1, w1, hat1.blk, hat1.esz, er, hlt, hLi, hLj, hat_ps.blk, hat_ps.esz, hat_ps.len, hon_ps, hne_ps, hne1_ps, hne2_ps, e_u, htx_u, hat_u.blk, hat_u.esz, hat_u.len, hat_u.els, hne_u, hne1_u, hne2_u, q1, q3, hb1', hb2']
    exact ⟨out ++ ps[L[j]].traits, by rw [List.append_assoc]; exact hi, .le hn1 (.one (c := some (H1.n + 1)) hwf (by (repeat first | exact Sub.refl _ | refine Sub.push hwf ?_ _ | refine Sub.set hwf ?_ (by first | exact Nat.le_refl _ | omega | (simp only [push_n, set_n, kill_n]; omega)) _ | refine Sub.kill hwf ?_ (by first | exact Nat.le_refl _ | omega | (simp only [push_n, set_n, kill_n]; omega)))) ⟨by omega, by simp [push_b, set_b, kill_b, rowK]; done⟩ (plain_map (fun _ => rfl) _) (by simp [frOk, AV.okR, AV.ok1, AC.okR, AV.ren, AV.ren1, AC.ren, AFrame.get, pl1_old, *]; first | done | rfl | omega))⟩
  · simp only [trAll_nil, List.append_nil] at hi
    subst hi
    rcases Nat.eq_zero_or_pos (trAll ps L).length with h0 | h0
    · have e0 : trAll ps L = [] := List.eq_nil_of_length_eq_zero h0
      simp (config := {contextual := true, implicitDefEqProofs := false, maxSteps := 2000000}) [-Int.not_le, -Int.not_lt, argsF, impl_TraitsSeen_l0, h0]
      rw [e0, compact_putAll, putAll] at h
      rw [e0]
      exact .one (c := some H1.n) hwf (Sub.push hwf hs1 _) ⟨hn1, by simp [push_b]⟩ (plain_map (fun _ => rfl) _) (by simp [frOk, AV.okR, AV.ok1, AC.okR, AV.ren, AV.ren1, AC.ren, AFrame.get, pl1_old, *]; first | done | rfl | omega) h
    · have h0' : ¬ (trAll ps L).length = 0 := by omega
      have h1' : (trAll ps L).length ≤ 1000000 := by omega
      simp (config := {contextual := true, implicitDefEqProofs := false, maxSteps := 2000000}) [-Int.not_le, -Int.not_lt, argsF, impl_TraitsSeen_l0, h0', h1']
      exact ⟨sortI_len _, .one (c := some H1.n) hwf (Sub.push hwf hs1 _) ⟨hn1, by simp [push_b]⟩ (plain_map (fun _ => rfl) _) (by simp [frOk, AV.okR, AV.ok1, AC.okR, AV.ren, AV.ren1, AC.ren, AFrame.get, pl1_old, *]; first | done | rfl | omega) h⟩

theorem spec_TraitsSeen_s : Sound Tryz.prog 15 q_tr := by
  intro args H K h
  unfold q_tr at h
  split at h
  rotate_left
  all_goals first | exact False.elim h | skip
  rename_i ps_v limit id
  have h1 := EncH.rd_at h
  clear h
  obtain ⟨b_ps, i_ps, k_ps, ps, rfl, hat_ps, h⟩ := h1
  have hE := soundE_cons spec_l13Find_s (soundE_cons spec_l13Good_s (soundE_cons spec_l13Limit_s (soundE_cons spec_l13Cover_s (soundE_cons spec_l1Put_s (soundE_nil (P := Tryz.prog))))))
  refine acalls_fn spec_TraitsSeen_k hE ⟨by simp, fun hwf => ?_⟩
  obtain ⟨hsr, hsp, hst, hss, hsk⟩ := hs_of hwf
  have hon_ps := hat_ps.on
  have hb_ps : b_ps < H.n := (hwf b_ps k_ps hat_ps.blk).1
  have hne_ps : (b_ps = H.n) = False := eq_false (by omega)
  have hne1_ps : ∀ i, (b_ps = H.n + i) = False := fun i => eq_false (by omega)
  have hne2_ps := ne2_of (a := b_ps) (b := H.n) (by omega)
  have hmx_ps : ps.length ≤ 9223372036854775807 := by have h1 := (hwf b_ps k_ps hat_ps.blk).2.2; have h2 := hat_ps.len; omega
  obtain ⟨hl, h⟩ := h
  unfold trRes at h
  by_cases hv : areSi ps = true
  rotate_left
  · simp (config := {contextual := true, implicitDefEqProofs := false, maxSteps := 2000000}) [-Int.not_le, -Int.not_lt, argsF, spec_TraitsSeen_c, hat_ps.blk, hat_ps.esz, hat_ps.len, hon_ps, hne_ps, hne1_ps, hne2_ps, hsr, hsp, hst, hss, hsk, hv]
    simp only [hv, if_false, reduceCtorEq] at h
    exact (.one (c := some (H.n)) hwf (by (repeat first | exact Sub.refl _ | refine Sub.push hwf ?_ _ | refine Sub.set hwf ?_ (by first | exact Nat.le_refl _ | omega | (simp only [push_n, set_n, kill_n]; omega)) _ | refine Sub.kill hwf ?_ (by first | exact Nat.le_refl _ | omega | (simp only [push_n, set_n, kill_n]; omega)))) ⟨by omega, by simp [push_b, set_b, kill_b, rowK]; done⟩ (plain_map (fun _ => rfl) _) (by simp [frOk, AV.okR, AV.ok1, AC.okR, AV.ren, AV.ren1, AC.ren, AFrame.get, pl1_old, *]; first | done | rfl | omega) h)
  simp only [hv, if_true] at h
  by_cases hr : inR limit (-30) 16 = true
  rotate_left
  · simp (config := {contextual := true, implicitDefEqProofs := false, maxSteps := 2000000}) [-Int.not_le, -Int.not_lt, argsF, spec_TraitsSeen_c, hat_ps.blk, hat_ps.esz, hat_ps.len, hon_ps, hne_ps, hne1_ps, hne2_ps, hsr, hsp, hst, hss, hsk, hv, hr]
    simp only [hr, if_false, reduceCtorEq] at h
    exact (.one (c := some (H.n)) hwf (by (repeat first | exact Sub.refl _ | refine Sub.push hwf ?_ _ | refine Sub.set hwf ?_ (by first | exact Nat.le_refl _ | omega | (simp only [push_n, set_n, kill_n]; omega)) _ | refine Sub.kill hwf ?_ (by first | exact Nat.le_refl _ | omega | (simp only [push_n, set_n, kill_n]; omega)))) ⟨by omega, by simp [push_b, set_b, kill_b, rowK]; done⟩ (plain_map (fun _ => rfl) _) (by simp [frOk, AV.okR, AV.ok1, AC.okR, AV.ren, AV.ren1, AC.ren, AFrame.get, pl1_old, *]; first | done | rfl | omega) h)
  simp only [hr, if_true] at h
  rcases ixOf_find (fun s : Si => decide (s.id = id)) ps with ⟨e1, _⟩ | ⟨m, hm, e1, _⟩
  · rw [e1] at h
    simp (config := {contextual := true, implicitDefEqProofs := false, maxSteps := 2000000}) [-Int.not_le, -Int.not_lt, argsF, spec_TraitsSeen_c, hat_ps.blk, hat_ps.esz, hat_ps.len, hon_ps, hne_ps, hne1_ps, hne2_ps, hsr, hsp, hst, hss, hsk, hv, hr, e1]
    simp only [show ((-1 : Int) < 0) = True from eq_true (by omega), if_true] at h
    exact (.one (c := some (H.n)) hwf (by (repeat first | exact Sub.refl _ | refine Sub.push hwf ?_ _ | refine Sub.set hwf ?_ (by first | exact Nat.le_refl _ | omega | (simp only [push_n, set_n, kill_n]; omega)) _ | refine Sub.kill hwf ?_ (by first | exact Nat.le_refl _ | omega | (simp only [push_n, set_n, kill_n]; omega)))) ⟨by omega, by simp [push_b, set_b, kill_b, rowK]; done⟩ (plain_map (fun _ => rfl) _) (by simp [frOk, AV.okR, AV.ok1, AC.okR, AV.ren, AV.ren1, AC.ren, AFrame.get, pl1_old, *]; first | done | rfl | omega) h)
  have hm0 : ((m : Int) < 0) = False := eq_false (by omega)
  have hm1 : (0 ≤ (m : Int)) = True := eq_true (by omega)
  have hmi : ((m : Int) < (ps.length : Int)) = True := eq_true (by omega)
  rw [e1] at h
  simp only [hm0, if_false, Int.toNat_natCast] at h
  have hpl := areSi_len hv
  have hall : ∀ x ∈ comp (edge ps limit) ps.length m, x < ps.length := fun x hx => (mem_comp.1 hx).lt
  have hcl := comp_len (edge ps limit) ps.length m
  have htl := trAll_len (fun p hp => (areSi_b hv p hp).2.2.2.2) _ hall

  simp (config := {contextual := true, implicitDefEqProofs := false, maxSteps := 2000000}) [-Int.not_le, -Int.not_lt, argsF, spec_TraitsSeen_c, hat_ps.blk, hat_ps.esz, hat_ps.len, hon_ps, hne_ps, hne1_ps, hne2_ps, hsr, hsp, hst, hss, hsk, hv, hr, e1, hm0, hm1, hmi, hm, hpl, hl]
  refine Stop.mk fun H1 b1 o1 k1 hw1 hs1 hat1 => ?_
  simp only [e1, Int.toNat_natCast] at hat1
  have hs1' : Sub H H1 := (Sub.push hwf (.refl _) _).trans hs1
  have hn1 : H.n < H1.n := hs1.1.1
  have hrow1 : H1.b H.n = some (rowK eI 3 []) := hs1.1.2 _ _ (by simp [push_b, rowK])
  have hb10 : b1 < H1.n := (hw1 _ _ hat1.blk).1
  have hbp0 : b_ps < H1.n := by omega
  generalize hL : comp (edge ps limit) ps.length m = L at h hat1 hall hcl htl
  simp (config := {contextual := true, implicitDefEqProofs := false, maxSteps := 2000000}) [-Int.not_le, -Int.not_lt, argsF, e1, hL]
  refine aloop_heap (X := TX × Nat) (fun x => [(0, .c (.sl b_ps i_ps ps.length)), (8, .c (.sl (x.1.b) (0) (x.1.out.length))), (10, .c (.sl (b1) (o1) (L.length))), (11, .c (.int .i64 ((x.2 : Int))))]) (fun x => x.1.H) (fun x => x.1.Ok H1 H.n b1 ∧ x.2 ≤ L.length ∧ putAll (trAll ps (L.drop x.2)) x.1.out = putAll (trAll ps L) [] ∧ x.1.out.length + (trAll ps (L.drop x.2)).length ≤ 1000) (fun x => L.length - x.2) hE _
    (⟨H1, H.n, []⟩, 0) ⟨⟨.refl _, hrow1, Nat.le_refl _⟩, Nat.zero_le _, by simp, by simp; omega⟩ (fun hw0 => .since (by simp only; omega) hw0 (.refl _) (by simp [frOk, AV.okR, AV.ok1, AC.okR, AV.ren, AV.ren1, AC.ren, AFrame.get, pl1_old, *]; first | done | rfl | omega)) (fun x hx hwx => ?_)
  obtain ⟨x, j⟩ := x
  obtain ⟨hok, hj, hp, hlen⟩ := hx
  simp only at hj hp hlen hok
  have hbx : x.b < x.H.n := (hwx _ _ hok.row).1
  have hb1 : b1 < x.H.n := (hwx _ _ (hok.sub.1.2 _ _ hat1.blk)).1
  have hbp : b_ps < x.H.n := (hwx _ _ (hok.sub.1.2 _ _ (hs1'.1.2 _ _ hat_ps.blk))).1
  have hnx : H.n ≤ x.H.n := by have := hok.sub.1.1; omega
  rcases Nat.lt_or_ge j L.length with hlt | hge
  rotate_left
  · obtain rfl : j = L.length := by omega
    rw [List.drop_length, trAll_nil, putAll] at hp
    simp (config := {contextual := true, implicitDefEqProofs := false, maxSteps := 2000000}) [-Int.not_le, -Int.not_lt, argsF, spec_TraitsSeen_l1]
    rw [← hp] at h
    exact .one (c := some x.b) hwf (hs1'.trans hok.sub) ⟨hok.ge, hok.row⟩ (plain_map (fun _ => rfl) _) (by simp [frOk, AV.okR, AV.ok1, AC.okR, AV.ren, AV.ren1, AC.ren, AFrame.get, pl1_old, *]; first | done | rfl | omega) h
  have hLj := hall _ (List.getElem_mem hlt)
  have hj1 := idx_lt hlt
  have w1 : IntKind.i64.wrap ((j : Int) + 1) = (j : Int) + 1 := wrap_id (by omega) (by omega)
  rw [List.drop_eq_getElem_cons hlt, trAll_cons] at hp hlen
  have htu : trt ps L[j] = ps[L[j]].traits := by simp [trt, List.getD_eq_getElem?_getD, hLj]
  rw [htu] at hp hlen
  have hat_ps1 : eSi.At H1 b_ps i_ps k_ps ps := hat_ps.sub hs1'
  have hat_ps : eSi.At x.H b_ps i_ps k_ps ps := hat_ps1.sub hok.sub
  have hwf0 := hwf
  have hwf := hwx
  obtain ⟨ex_u, e_u, hd_u⟩ := hat_ps.get hLj
  obtain ⟨b_u, i_u, k_u, rfl, hat_u, htx_u⟩ := eSi_at hd_u
  have hb_u : b_u < x.H.n := (hwf b_u k_u hat_u.blk).1
  have hne_u : (b_u = x.H.n) = False := eq_false (by omega)
  have hne1_u : ∀ i, (b_u = x.H.n + i) = False := fun i => eq_false (by omega)
  have hne2_u := ne2_of (a := b_u) (b := x.H.n) (by omega)
  have er := hat1.get (j := j) (by rw [nats_len]; exact hlt)
  rw [show (nats L)[j]'(by rw [nats_len]; exact hlt) = (L[j] : Int) by simp [nats]] at er
  have hLi : ((L[j] : Int) < (ps.length : Int)) = True := eq_true (by omega)
  have hgb : x.H.b b1 = some k1 := hok.sub.1.2 _ _ hat1.blk
  have htx1 : eI.At x.H b_u i_u k_u ps[L[j]].traits := hat_u
  simp (config := {contextual := true, implicitDefEqProofs := false, maxSteps := 2000000}) [-Int.not_le, -Int.not_lt, argsF, spec_TraitsSeen_l1, hj1, w1, hgb, hat1.esz, er, hlt, hLi, hLj, hat_ps.blk, hat_ps.esz, hat_ps.len, hon_ps, hne_ps, hne1_ps, hne2_ps, e_u, htx_u, hat_u.blk, hat_u.esz, hat_u.len, hat_u.els, hne_u, hne1_u, hne2_u]
  refine aloop_heap (X := TX × Nat) (fun y => [(0, .c (.sl b_ps i_ps ps.length)), (8, .c (.sl (y.1.b) (0) (y.1.out.length))), (10, .c (.sl (b1) (o1) (L.length))), (11, .c (.int .i64 ((j : Int)))), (12, .c (.sl (b_u) (i_u) (ps[L[j]].traits.length))), (13, .c (.int .i64 ((y.2 : Int))))]) (fun y => y.1.H) (fun y => y.1.Ok x.H H.n b1 ∧ y.2 ≤ ps[L[j]].traits.length ∧ putAll (ps[L[j]].traits.drop y.2 ++ trAll ps (L.drop (j + 1))) y.1.out = putAll (trAll ps L) [] ∧ y.1.out.length + (ps[L[j]].traits.drop y.2 ++ trAll ps (L.drop (j + 1))).length ≤ 1000) (fun y => ps[L[j]].traits.length - y.2) hE _
    (x, 0) ⟨⟨.refl _, hok.row, hok.ge⟩, Nat.zero_le _, by simpa using hp, by simpa using hlen⟩ (fun hw0 => .since (by simp only; omega) hw0 (.refl _) (by simp [frOk, AV.okR, AV.ok1, AC.okR, AV.ren, AV.ren1, AC.ren, AFrame.get, pl1_old, *]; first | done | rfl | omega)) (fun y hy hwy => ?_)
  obtain ⟨y, i⟩ := y
  obtain ⟨hyk, hyi, hyp, hyl⟩ := hy
  simp only at hyi hyp hyl hyk
  have hby : y.b < y.H.n := (hwy _ _ hyk.row).1
  have hny : x.H.n ≤ y.H.n := hyk.sub.1.1
  have hby1 : b1 < y.H.n := by omega
  have hbyp : b_ps < y.H.n := by omega
  have hbyu : b_u < y.H.n := by omega
  have hyu : eI.At y.H b_u i_u k_u ps[L[j]].traits := ⟨hyk.sub.1.2 _ _ htx1.blk, htx1.esz, htx1.len, htx1.els⟩
  rcases Nat.lt_or_ge i ps[L[j]].traits.length with hilt | hige
  rotate_left
  · have hie : i = ps[L[j]].traits.length := by omega
    rw [hie, List.drop_length, List.nil_append] at hyp hyl
    have hi0 : ¬ ((i : Int) < (ps[L[j]].traits.length : Int)) := by omega
    simp (config := {contextual := true, implicitDefEqProofs := false, maxSteps := 2000000}) [-Int.not_le, -Int.not_lt, argsF, spec_TraitsSeen_l0, hi0, w1]
    exact ⟨fun hw => ⟨(y, j + 1), ⟨⟨hok.sub.trans hyk.sub, hyk.row, hyk.ge⟩, hlt, hyp, by simpa using hyl⟩, by simp only; omega, .since (by simp only; omega) hw (.refl _) (by simp [frOk, AV.okR, AV.ok1, AC.okR, AV.ren, AV.ren1, AC.ren, AFrame.get, pl1_old, *]; first | done | rfl | omega)⟩⟩
  have hi1 := idx_lt hilt
  have htl8 := (areSi_b hv _ (List.getElem_mem hLj)).2.2.2.2
  have w2 : IntKind.i64.wrap ((i : Int) + 1) = (i : Int) + 1 := wrap_id (by omega) (by omega)
  have ei := hyu.get hilt
  rw [List.drop_eq_getElem_cons hilt, List.cons_append, putAll] at hyp
  rw [List.drop_eq_getElem_cons hilt, List.cons_append, List.length_cons] at hyl
  have hol : y.out.length ≤ 1000000 := by omega
  have hpl2 := putI_len y.out ps[L[j]].traits[i]
  cases hh : hasP y.out ps[L[j]].traits[i] with
  | true =>
    have hpe : putI y.out ps[L[j]].traits[i] = y.out := by rw [putI, if_pos hh]
    rw [hpe] at hyp
    simp (config := {contextual := true, implicitDefEqProofs := false, maxSteps := 2000000}) [-Int.not_le, -Int.not_lt, argsF, spec_TraitsSeen_l0, hi1, w2, hyu.blk, hyu.esz, hilt, ei, hyk.row, hol, hh]
    exact ⟨fun hw => ⟨(y, i + 1), ⟨hyk, hilt, hyp, by simp only [List.length_append, List.length_drop] at hyl ⊢; omega⟩, by simp only; omega, .since (by simp only; omega) hw (.refl _) (by simp [frOk, AV.okR, AV.ok1, AC.okR, AV.ren, AV.ren1, AC.ren, AFrame.get, pl1_old, *]; first | done | rfl | omega)⟩⟩
  | false =>
    simp (config := {contextual := true, implicitDefEqProofs := false, maxSteps := 2000000}) [-Int.not_le, -Int.not_lt, argsF, spec_TraitsSeen_l0, hi1, w2, hyu.blk, hyu.esz, hilt, ei, hyk.row, hol, hh]
    exact ⟨fun hw => ⟨(⟨y.H.push (rowK eI 3 (putI y.out ps[L[j]].traits[i])), y.H.n, putI y.out ps[L[j]].traits[i]⟩, i + 1), ⟨⟨Sub.push hwf hyk.sub _, by simp [push_b], by simp only; omega⟩, hilt, hyp, by simp only [List.length_append, List.length_drop] at hyl ⊢; omega⟩, by simp only; omega, .since (by simp only [push_n]; omega) hw (.refl _) (by simp [frOk, AV.okR, AV.ok1, AC.okR, AV.ren, AV.ren1, AC.ren, AFrame.get, pl1_old, *]; first | done | rfl | omega)⟩⟩

end Go.Proofs.YtafenginfojcmaaGreatDoor
set_option maxRecDepth 8000
set_option linter.unusedSimpArgs false
set_option linter.unusedVariables false
namespace Go.Proofs.YtafenginfojcmaaGreatDoor
open Go Go.RowKit

set_option maxHeartbeats 4000000
def iiK (cs : List Nat) (rows : List (List Int)) : ABlk := ⟨30, 1, false, false, List.zipWith (fun c g => [AC.sl c 0 g.length]) cs rows⟩
@[simp] theorem iiK_els (cs : List Nat) (rows : List (List Int)) : (iiK cs rows).els = List.zipWith (fun c g => [AC.sl c 0 g.length]) cs rows := rfl
@[simp] theorem iiK_esz (cs : List Nat) (rows : List (List Int)) : (iiK cs rows).esz = 1 := rfl
@[simp] theorem iiK_ro (cs : List Nat) (rows : List (List Int)) : (iiK cs rows).ro = false := rfl
@[simp] theorem iiK_fz (cs : List Nat) (rows : List (List Int)) : (iiK cs rows).fz = false := rfl
@[simp] theorem iiK_ty (cs : List Nat) (rows : List (List Int)) : (iiK cs rows).ty = 30 := rfl
theorem iiK_add {cs : List Nat} {rows : List (List Int)} {b m : Nat} {C : List Int} (hl : cs.length = rows.length) (hm : m = C.length) : (⟨30, 1, false, false, List.take rows.length (List.zipWith (fun c g => [AC.sl c 0 g.length]) cs rows) ++ [[AC.sl b 0 m]]⟩ : ABlk) = iiK (cs ++ [b]) (rows ++ [C]) := by
  subst hm
  rw [List.take_of_length_le (by simp [hl])]
  simp [iiK, List.zipWith_append hl]
/-- rows of one's own, row by row -/
structure IIRows (H : AHeap) (b : Nat) (cs : List Nat) (rows : List (List Int)) : Prop where
  len : cs.length = rows.length
  nd : cs.Nodup
  nb : b ∉ cs
  blk : H.b b = some (iiK cs rows)
  row : ∀ (j c : Nat) (g : List Int), cs[j]? = some c → rows[j]? = some g → H.b c = some (rowK eI 3 g)
theorem IIRows.sub {H H' : AHeap} {b : Nat} {cs : List Nat} {rows : List (List Int)} (h : IIRows H b cs rows) (hs : Sub H H') : IIRows H' b cs rows :=
  ⟨h.len, h.nd, h.nb, hs.1.2 _ _ h.blk, fun j c p hc hp => hs.1.2 _ _ (h.row j c p hc hp)⟩
theorem IIRows.out {H H' : AHeap} {b lo hi : Nat} {cs : List Nat} {rows : List (List Int)} (h : IIRows H b cs rows) (hs : SubOut lo hi H H') (hb : ∀ c ∈ b :: cs, c < lo ∨ hi ≤ c) : IIRows H' b cs rows :=
  ⟨h.len, h.nd, h.nb, (hs.out _ (hb _ (by simp))).trans h.blk, fun j c p hc hp => (hs.out _ (hb _ (by simp [List.mem_of_getElem? hc]))).trans (h.row j c p hc hp)⟩
theorem IIRows.at {H : AHeap} {b : Nat} {cs : List Nat} {rows : List (List Int)} (h : IIRows H b cs rows) : eII.At H b 0 (iiK cs rows) rows := by
  refine ⟨h.blk, rfl, by simp [h.len], ?_⟩
  rw [iiK_els, List.drop_zero, List.take_of_length_le (by simp [h.len])]
  refine eII.decL_zip (fun c (g : List Int) => [AC.sl c 0 g.length]) cs rows h.len fun j c g hc hg => ?_
  have h0 := h.row j c g hc hg
  have e : List.take g.length (List.map eI.cells g) = List.map eI.cells g := List.take_of_length_le (by simp)
  simp [eII, rdI, h0, e]
theorem IIRows.get {H : AHeap} {b : Nat} {cs : List Nat} {rows : List (List Int)} (h : IIRows H b cs rows) {j : Nat} (hj : j < rows.length) : ∃ c, cs[j]? = some c ∧ (List.zipWith (fun c (g : List Int) => [AC.sl c 0 g.length]) cs rows)[j]? = some [AC.sl c 0 rows[j].length] ∧ H.b c = some (rowK eI 3 rows[j]) ∧ c ≠ b ∧ c ∈ cs := by
  have hjc : j < cs.length := by rw [h.len]; exact hj
  have h1 : cs[j]? = some cs[j] := List.getElem?_eq_getElem hjc
  have h2 : rows[j]? = some rows[j] := List.getElem?_eq_getElem hj
  exact ⟨cs[j], h1, by simp [List.getElem?_zipWith, h1, h2], h.row j _ _ h1 h2, fun e => h.nb (e ▸ List.getElem_mem hjc), List.getElem_mem hjc⟩
theorem IIRows.bnd {H : AHeap} {b : Nat} {cs : List Nat} {rows : List (List Int)} (h : IIRows H b cs rows) (hw : H.WF) : ∀ c ∈ b :: cs, c < H.n := fun c hc => by
  rcases List.mem_cons.1 hc with rfl | hc
  · exact (hw _ _ h.blk).1
  · obtain ⟨j, hj⟩ := List.getElem?_of_mem hc
    have hjl := (List.getElem?_eq_some_iff.1 hj).1
    have hjr : j < rows.length := by have := h.len; omega
    exact (hw _ _ (h.row j c rows[j] hj (List.getElem?_eq_getElem hjr))).1
/-- one more row -/
theorem IIRows.add {H : AHeap} {b : Nat} {cs : List Nat} {rows : List (List Int)} (h : IIRows H b cs rows) (hw : H.WF) (ids : List Int) (K : ABlk) :
    IIRows ((((H.push (rowK eI 3 ids)).push K).kill b).push (iiK (cs ++ [H.n]) (rows ++ [ids]))) (H.n + 1 + 1) (cs ++ [H.n]) (rows ++ [ids]) := by
  have hb := h.bnd hw
  have hb0 := hb b (by simp)
  have hc0 : ∀ c ∈ cs, c < H.n := fun c hc => hb c (by simp [hc])
  refine ⟨by simp [h.len], List.nodup_append.2 ⟨h.nd, by simp, fun x hx y hy e => by rw [List.mem_singleton.1 hy] at e; have := hc0 x hx; omega⟩, fun hc => ?_, by simp [push_b], fun j c g hc hg => ?_⟩
  · rcases List.mem_append.1 hc with hc | hc
    · have := hc0 _ hc; omega
    · have := List.mem_singleton.1 hc; omega
  · rcases Nat.lt_or_ge j cs.length with hj | hj
    · rw [List.getElem?_append_left hj] at hc
      rw [List.getElem?_append_left (by have := h.len; omega)] at hg
      have hcm := List.mem_of_getElem? hc
      have h1 := hc0 c hcm
      have h2 : c ≠ b := fun e => h.nb (e ▸ hcm)
      rw [push_b, if_neg (by simp only [kill_n, push_n]; omega), kill_b, if_neg h2, push_b, if_neg (by simp only [push_n]; omega), push_b, if_neg (by omega)]
      exact h.row j c g hc hg
    · have hj2 : j = cs.length := by have := (List.getElem?_eq_some_iff.1 hc).1; simp at this; omega
      subst hj2
      rw [List.getElem?_append_right (Nat.le_refl _)] at hc
      rw [List.getElem?_append_right (by have := h.len; omega)] at hg
      simp [h.len] at hc hg
      subst hc hg
      rw [push_b, if_neg (by simp only [kill_n, push_n]; omega), kill_b, if_neg (by omega), push_b, if_neg (by simp only [push_n]; omega), push_b, if_pos rfl]
theorem eII_at3 {H : AHeap} {e : List AC} {l : List Int} (h : eII.dec H e = some l) : ∃ b i k, e = [.sl b i l.length] ∧ eI.At H b i k l ∧ True := by
  simp only [eII] at h
  split at h
  · obtain ⟨b, i, k, rfl, h2⟩ := rdI_at h
    exact ⟨b, i, k, rfl, h2, trivial⟩
  · cases h
def iiTot (rows : List (List Int)) : Nat := (rows.map List.length).sum
def mksII : List (List Int) → Int → List (List Int)
  | [], _ => []
  | g :: r, k => mksInt g.length k :: mksII r (k + (g.length : Int))
def endII : List (List Int) → Int → Int
  | [], k => k
  | g :: r, k => endII r (k + (g.length : Int))
theorem endII_eq : ∀ (rows : List (List Int)) (k : Int), endII rows k = k + (iiTot rows : Int)
  | [], k => by simp [endII, iiTot]
  | g :: r, k => by
    rw [endII, endII_eq r]
    simp only [iiTot, List.map_cons, List.sum_cons]
    push_cast
    omega
@[simp] theorem mksII_len : ∀ (rows : List (List Int)) (k : Int), (mksII rows k).length = rows.length
  | [], _ => rfl
  | g :: r, k => by simp [mksII, mksII_len r]
def heldII : List (List Int) → Int → Int
  | [], k => k
  | g :: r, k => if heldInt g k < 0 then -1 else heldII r (heldInt g k)
theorem heldII_mks : ∀ (rows : List (List Int)) (k : Int), 0 ≤ k → heldII (mksII rows k) k = endII rows k
  | [], k, _ => rfl
  | g :: r, k, h => by
    rw [mksII, heldII, heldInt_mks, if_neg (by omega), heldII_mks r _ (by omega), endII]
theorem iiK_same {cs : List Nat} {d r : List (List Int)} {p p' : List Int} (h : p'.length = p.length) : iiK cs (d ++ p' :: r) = iiK cs (d ++ p :: r) := by
  unfold iiK
  congr 1
  apply List.ext_getElem?
  intro i
  simp only [List.getElem?_zipWith]
  rcases Nat.lt_trichotomy i d.length with h1 | h1 | h1
  · rw [List.getElem?_append_left h1, List.getElem?_append_left h1]
  · subst h1
    rw [List.getElem?_append_right (Nat.le_refl _), List.getElem?_append_right (Nat.le_refl _)]
    cases cs[d.length]? <;> simp [h]
  · rw [List.getElem?_append_right (by omega), List.getElem?_append_right (by omega)]
    cases hm : i - d.length with
    | zero => omega
    | succ m => rfl
theorem IIRows.mark {H : AHeap} {b c : Nat} {cs : List Nat} {d r : List (List Int)} {p : List Int} (h : IIRows H b cs (d ++ p :: r)) (hc : cs[d.length]? = some c) {p' : List Int} (hp : p'.length = p.length) :
    IIRows (H.set c (rowK eI 3 p')) b cs (d ++ p' :: r) := by
  have hcb : b ≠ c := fun e => h.nb (e ▸ List.mem_of_getElem? hc)
  have hl := h.len
  simp only [List.length_append, List.length_cons] at hl
  refine ⟨by simp [hl], h.nd, h.nb, ?_, fun j c' q hj hq => ?_⟩
  · rw [set_b, if_neg hcb, iiK_same hp]
    exact h.blk
  · rcases Nat.lt_trichotomy j d.length with h1 | h1 | h1
    · have hne : c' ≠ c := fun e => by
        subst e
        have := (List.getElem?_inj (i := j) (j := d.length) (by omega) h.nd).1 (hj.trans hc.symm)
        omega
      rw [set_b, if_neg hne]
      refine h.row j c' q hj ?_
      rw [List.getElem?_append_left h1] at hq ⊢
      exact hq
    · subst h1
      rw [hc] at hj
      cases hj
      rw [set_b, if_pos rfl]
      rw [List.getElem?_append_right (Nat.le_refl _)] at hq
      simp at hq
      rw [hq]
    · have hne : c' ≠ c := fun e => by
        subst e
        have h3 := (List.getElem?_eq_some_iff.1 hj).1
        have := (List.getElem?_inj (i := j) (j := d.length) h3 h.nd).1 (hj.trans hc.symm)
        omega
      rw [set_b, if_neg hne]
      refine h.row j c' q hj ?_
      rw [List.getElem?_append_right (by omega)] at hq ⊢
      cases hm : j - d.length with
      | zero => omega
      | succ m => rw [hm] at hq; exact hq
def q_markII : Con := fun args H K => match args with
  | [.c (.sl b i n), .c (.int .i64 k)] => Stop (∃ lo hi cs rows, i = 0 ∧ n = rows.length ∧ IIRows H b cs rows ∧ (∀ c ∈ b :: cs, lo ≤ c ∧ c < hi) ∧ rows.length ≤ 1048576 ∧ (∀ p ∈ rows, p.length ≤ 1048576) ∧ 0 < k ∧ endII rows k ≤ 1099511627000 ∧ ∀ H', H'.WF → SubOut lo hi H H' → IIRows H' b cs (mksII rows k) → K (.c (.int .i64 (endII rows k))) H') ()
  | _ => False
@[simp ↓] theorem q_markII_eq (b i n : Nat) (k : Int) (H : AHeap) (K : AV → AHeap → Prop) : q_markII [.c (.sl b i n), .c (.int .i64 k)] H K = Stop (∃ lo hi cs rows, i = 0 ∧ n = rows.length ∧ IIRows H b cs rows ∧ (∀ c ∈ b :: cs, lo ≤ c ∧ c < hi) ∧ rows.length ≤ 1048576 ∧ (∀ p ∈ rows, p.length ≤ 1048576) ∧ 0 < k ∧ endII rows k ≤ 1099511627000 ∧ ∀ H', H'.WF → SubOut lo hi H H' → IIRows H' b cs (mksII rows k) → K (.c (.int .i64 (endII rows k))) H') () := rfl
structure MkII where
  H : AHeap
  d : List (List Int)
  k : Int

def q_eqII : Con := fun args H K => match args with
  | [ps_v, rs_v] => eII.rd H (fun ps => eII.rd H (fun rs => K (.c (.bool (decide (ps = rs)))) H) rs_v) ps_v
  | _ => False
@[simp ↓] theorem q_eqII_eq (ps_v : AV) (rs_v : AV) (H : AHeap) (K : AV → AHeap → Prop) : q_eqII [ps_v, rs_v] H K = (eII.rd H (fun ps => eII.rd H (fun rs => K (.c (.bool (decide (ps = rs)))) H) rs_v) ps_v) := rfl

def q_heldII : Con := fun args H K => match args with
  | [ps_v, .c (.int .i64 k)] => eII.rd H (fun ps => (∀ p ∈ ps, p.length ≤ 1048576) ∧ 0 ≤ k ∧ k + 1048576 * (ps.length : Int) ≤ 1099511627776 ∧ K (.c (.int .i64 (heldII ps k))) H) ps_v
  | _ => False
@[simp ↓] theorem q_heldII_eq (ps_v : AV) (k : Int) (H : AHeap) (K : AV → AHeap → Prop) : q_heldII [ps_v, .c (.int .i64 k)] H K = (eII.rd H (fun ps => (∀ p ∈ ps, p.length ≤ 1048576) ∧ 0 ≤ k ∧ k + 1048576 * (ps.length : Int) ≤ 1099511627776 ∧ K (.c (.int .i64 (heldII ps k))) H) ps_v) := rfl

theorem heldInt_le : ∀ (l : List Int) (k : Int), heldInt l k ≤ k + (l.length : Int) ∨ heldInt l k < 0
  | [], k => by simp [heldInt]
  | p :: r, k => by
    rw [heldInt]
    split
    · have := heldInt_le r (k + 1)
      simp only [List.length_cons]
      omega
    · omega

end Go.Proofs.YtafenginfojcmaaGreatDoor
set_option maxRecDepth 8000
set_option linter.unusedSimpArgs false
set_option linter.unusedVariables false
namespace Go.Proofs.YtafenginfojcmaaGreatDoor
open Go Go.RowKit

set_option maxHeartbeats 4000000
noncomputable def cvTo (ps : List Si) (limit : Int) (k : Nat) : List (List Int) := (groupsTo (edge ps limit) ps.length k).map fun g => g.map (sid ps)
theorem cvTo_yes {ps : List Si} {limit : Int} {k : Nat} (h : leads (edge ps limit) ps.length k) : cvTo ps limit (k + 1) = cvTo ps limit k ++ [(comp (edge ps limit) ps.length k).map (sid ps)] := by
  rw [cvTo, groupsTo_yes h, List.map_append]; rfl
theorem cvTo_no {ps : List Si} {limit : Int} {k : Nat} (h : ¬ leads (edge ps limit) ps.length k) : cvTo ps limit (k + 1) = cvTo ps limit k := by
  rw [cvTo, groupsTo_no h]; rfl
theorem cvTo_len (ps : List Si) (limit : Int) (k : Nat) : (cvTo ps limit k).length ≤ k := by
  rw [cvTo, List.length_map]; exact groupsTo_len _ _ _
theorem cvTo_in {ps : List Si} {limit : Int} {k : Nat} : ∀ g ∈ cvTo ps limit k, g.length ≤ ps.length := fun g hg => by
  unfold cvTo groupsTo at hg
  obtain ⟨x, hx, rfl⟩ := List.mem_map.1 hg
  obtain ⟨i, _, rfl⟩ := List.mem_map.1 hx
  rw [List.length_map]
  exact nodup_len _ _ (comp_up.imp fun {a b} h => by omega) fun x hx => (mem_comp.1 hx).lt
theorem sum_le {n : Nat} : ∀ {l : List (List Int)}, (∀ g ∈ l, g.length ≤ n) → iiTot l ≤ l.length * n
  | [], _ => by simp [iiTot]
  | g :: r, h => by
    have h1 := sum_le (l := r) fun x hx => h x (by simp [hx])
    have h2 := h g (by simp)
    simp only [iiTot, List.map_cons, List.sum_cons, List.length_cons] at h1 ⊢
    rw [Nat.add_mul]
    omega
/-- a group's first one is the one asked for, just where that one leads -/
theorem comp_head {ps : List Si} {limit : Int} {k : Nat} (hs : ∀ x k, x < ps.length → k < ps.length → edge ps limit x k = true → edge ps limit k x = true) (hk : k < ps.length) :
    ∃ h0 t, comp (edge ps limit) ps.length k = h0 :: t ∧ (h0 < k ↔ ¬ leads (edge ps limit) ps.length k) := by
  have hm : k ∈ comp (edge ps limit) ps.length k := mem_comp.2 (.refl hk)
  have hup := comp_up (e := edge ps limit) (n := ps.length) (i := k)
  cases hc : comp (edge ps limit) ps.length k with
  | nil => rw [hc] at hm; cases hm
  | cons h0 t =>
    rw [hc, List.pairwise_cons] at hup
    refine ⟨h0, t, rfl, fun h hl => ?_, fun h => ?_⟩
    · have h1 : h0 ∈ comp (edge ps limit) ps.length k := by rw [hc]; simp
      exact hl h0 h ((mem_comp.1 h1).symm hs)
    · simp only [leads, Classical.not_forall, Classical.not_not] at h
      obtain ⟨j, hj, hr⟩ := h
      have h1 := mem_comp.2 (hr.symm hs)
      rw [hc] at h1
      rcases List.mem_cons.1 h1 with rfl | h1
      · exact hj
      · have := hup.1 j h1; omega
noncomputable def cvRes (ps : List Si) (limit : Int) : List (List Int) × Bool := if areSi ps = true then if inR limit (-30) 16 = true then (cvTo ps limit ps.length, true) else ([], false) else ([], false)
theorem cvRes_len (ps : List Si) (limit : Int) : (cvRes ps limit).1.length ≤ 10 ∧ ∀ g ∈ (cvRes ps limit).1, g.length ≤ 10 := by
  unfold cvRes
  split
  · rename_i hv
    have h4 := areSi_len hv
    split
    · exact ⟨Nat.le_trans (cvTo_len _ _ _) h4, fun g hg => Nat.le_trans (cvTo_in g hg) h4⟩
    · simp
  · simp
structure CX where
  H : AHeap
  b : Nat
  cs : List Nat
  rows : List (List Int)
structure CX.Ok (x : CX) (H1 : AHeap) (n0 : Nat) : Prop where
  sub : Sub H1 x.H
  rows : IIRows x.H x.b x.cs x.rows
  ge : ∀ c ∈ x.b :: x.cs, n0 ≤ c
theorem iiK_rows {H : AHeap} : IIRows (H.push (iiK [] [])) H.n [] [] := ⟨rfl, by simp, by simp, by simp [push_b], fun j c g hc => by simp at hc⟩
theorem CX.Ok.add {x : CX} {H1 : AHeap} {n0 : Nat} (h : x.Ok H1 n0) (hwf1 : H1.WF) (hw : x.H.WF) (hn : n0 ≤ H1.n) (hb1 : H1.n ≤ x.b) (ids : List Int) (K : ABlk) :
    (⟨(((x.H.push (rowK eI 3 ids)).push K).kill x.b).push (iiK (x.cs ++ [x.H.n]) (x.rows ++ [ids])), x.H.n + 1 + 1, x.cs ++ [x.H.n], x.rows ++ [ids]⟩ : CX).Ok H1 n0 := by
  have hnx := h.sub.1.1
  refine ⟨Sub.push hwf1 (Sub.kill hwf1 (Sub.push hwf1 (Sub.push hwf1 h.sub _) _) hb1) _, h.rows.add hw ids K, fun c hc => ?_⟩
  rcases List.mem_cons.1 hc with rfl | hc
  · simp only; omega
  · rcases List.mem_append.1 hc with hc | hc
    · exact h.ge c (by simp [hc])
    · rw [List.mem_singleton.1 hc]; omega

def q_cv : Con := fun args H K => match args with
  | [ps_v, .c (.int .i64 limit)] => eSi.rd H (fun ps => (∀ p ∈ ps, p.traits.length ≤ 1048576) ∧ Stop (∀ H' b cs, H'.WF → Sub H H' → IIRows H' b cs (cvRes ps limit).1 → (∀ c ∈ b :: cs, H.n ≤ c) → K (.tup [.c (.sl (b) (0) ((cvRes ps limit).1.length)), .c (.bool ((cvRes ps limit).2))]) H') ()) ps_v
  | _ => False
@[simp ↓] theorem q_cv_eq (ps_v : AV) (limit : Int) (H : AHeap) (K : AV → AHeap → Prop) : q_cv [ps_v, .c (.int .i64 limit)] H K = (eSi.rd H (fun ps => (∀ p ∈ ps, p.traits.length ≤ 1048576) ∧ Stop (∀ H' b cs, H'.WF → Sub H H' → IIRows H' b cs (cvRes ps limit).1 → (∀ c ∈ b :: cs, H.n ≤ c) → K (.tup [.c (.sl (b) (0) ((cvRes ps limit).1.length)), .c (.bool ((cvRes ps limit).2))]) H') ()) ps_v) := rfl

end Go.Proofs.YtafenginfojcmaaGreatDoor
