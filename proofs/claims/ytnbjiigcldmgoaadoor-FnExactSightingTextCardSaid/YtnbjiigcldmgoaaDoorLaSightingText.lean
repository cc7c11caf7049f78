/- It is proved that the law FnExactSightingText returns true and leaves its argument as it was (the tied card). No condition beyond the card's own: the listed tables, tied to the program's text. -/
import Derived.Test.YtnbjiigcldmgoaaDoorTkSd
import Derived.Test.YtnbjiigcldmgoaaDoorSdT
import Derived.Test.YtnbjiigcldmgoaaDoorLawN
import Derived.Test.YtnbjiigcldmgoaaDoorLawA
import Derived.OpenShut
import Derived.LaidMore
import Derived.Stop.Joined
import Derived.Lib.AppendIntMem
import Derived.SevenTiedAt
import Derived.Test.YtnbjiigcldmgoaaDoorRows
import Derived.Test.YtnbjiigcldmgoaaDoorTie
import Derived.Test.YtnbjiigcldmgoaaDoorCards
set_option maxRecDepth 8000
set_option maxHeartbeats 1000000
set_option linter.unusedSimpArgs false
set_option linter.unusedVariables false
namespace Go.Proofs.YtnbjiigcldmgoaaDoor
open Go Go.ChangeShapes Go.WideShapes Go.ChangeAt Go.RowKit Go.Deep Go

def q_tSt : Con := fun args H K => match args with
  | [.agg s_e] => onv (eSi.dec H s_e) fun s => (∀ w, H.I w → tabI w) ∧ K (.c (.bool (true))) H
  | _ => False
@[simp ↓] theorem q_tSt_eq (s_e : List AC) (H : AHeap) (K : AV → AHeap → Prop) : q_tSt [.agg s_e] H K = (onv (eSi.dec H s_e) fun s => (∀ w, H.I w → tabI w) ∧ K (.c (.bool (true))) H) := rfl

set_option maxHeartbeats 4000000

theorem laws_FnExactSightingText_s : Sound Tryd.prog 3 q_tSt := by
  intro args H K h
  unfold q_tSt at h
  split at h
  rotate_left
  all_goals first | exact False.elim h | skip
  rename_i s_e
  have h1 := onv_iff.1 h
  clear h
  obtain ⟨s, hd_s, h⟩ := h1
  obtain ⟨b_s, i_s, k_s, rfl, hat_s, htx_s⟩ := eSi_at hd_s
  have hE := soundE_cons laws_szSighting_s (soundE_cons laws_toSighting_s (soundE_cons laws_eqSighting_s (soundE_cons impl_SightingText_s (soundE_cons spec_SightingText_s (soundE_nil (P := Tryd.prog))))))
  refine acalls_fn laws_FnExactSightingText_k hE ⟨by simp, fun hwf => ?_⟩
  have hsr : SubE H H := SubE.refl H
  have hsp : ∀ H' k, H.n ≤ H'.n → SubE H H' → SubE H (H'.push k) := fun H' k hn hs => SubE.push hwf hn hs k
  have hst : ∀ H', SubE H H' → SubE H H'.toRo := fun H' hs => hs.toRo
  have hss : ∀ H' i k, H.n ≤ i → SubE H H' → SubE H (H'.set i k) := fun H' i k hn hs => SubE.set hwf hn hs k
  have hsk : ∀ H' i, H.n ≤ i → SubE H H' → SubE H (H'.kill i) := fun H' i hn hs => SubE.kill hwf hn hs
  have hb_s : b_s < H.n := (hwf b_s k_s hat_s.blk).1
  have hne_s : (b_s = H.n) = False := eq_false (by omega)
  have hne1_s : ∀ i, (b_s = H.n + i) = False := fun i => eq_false (by omega)
  have hne2_s : (b_s = H.n + 1 + 1) = False ∧ (b_s = H.n + 1 + 1 + 1) = False ∧ (b_s = H.n + 1 + 1 + 1 + 1) = False ∧ (b_s = H.n + 1 + 1 + 1 + 1 + 1) = False ∧ (b_s = H.n + 1 + 1 + 1 + 1 + 1 + 1) = False ∧ (b_s = H.n + 1 + 1 + 1 + 1 + 1 + 1 + 1) = False ∧ (b_s = H.n + 1 + 1 + 1 + 1 + 1 + 1 + 1 + 1) = False ∧ (b_s = H.n + 1 + 1 + 1 + 1 + 1 + 1 + 1 + 1 + 1) = False ∧ (b_s = H.n + 1 + 1 + 1 + 1 + 1 + 1 + 1 + 1 + 1 + 1) = False ∧ (b_s = H.n + 1 + 1 + 1 + 1 + 1 + 1 + 1 + 1 + 1 + 1 + 1) = False ∧ (b_s = H.n + 1 + 1 + 1 + 1 + 1 + 1 + 1 + 1 + 1 + 1 + 1 + 1) = False := ⟨eq_false (by omega), eq_false (by omega), eq_false (by omega), eq_false (by omega), eq_false (by omega), eq_false (by omega), eq_false (by omega), eq_false (by omega), eq_false (by omega), eq_false (by omega), eq_false (by omega)⟩
  have hmx_s : s.traits.length ≤ 9223372036854775807 := by have h1 := (hwf b_s k_s hat_s.blk).2.2; have h2 := hat_s.len; omega
  obtain ⟨hI, h⟩ := h
  by_cases hz : szSi s 1048576 < 0
  · simp (config := {contextual := true, implicitDefEqProofs := false, maxSteps := 2000000}) [-Int.not_le, -Int.not_lt, argsF, laws_FnExactSightingText_c, hat_s.blk, hat_s.esz, hat_s.len, hat_s.els, hne_s, hne1_s, hne2_s.1, hne2_s.2.1, hne2_s.2.2.1, hne2_s.2.2.2.1, hne2_s.2.2.2.2.1, hne2_s.2.2.2.2.2.1, hne2_s.2.2.2.2.2.2.1, hne2_s.2.2.2.2.2.2.2.1, hne2_s.2.2.2.2.2.2.2.2.1, hne2_s.2.2.2.2.2.2.2.2.2.1, hne2_s.2.2.2.2.2.2.2.2.2.2, htx_s, hsr, hsp, hst, hss, hsk, hz]
    (refine Out.plain hwf ?_ rfl ?_; (repeat first | exact Sub.refl _ | refine Sub.push hwf ?_ _ | refine Sub.set hwf ?_ (by first | exact Nat.le_refl _ | omega) _ | refine Sub.kill hwf ?_ (by first | exact Nat.le_refl _ | omega))); exact h
  have hl := (szSi_le s (l := 1048576) (by omega)).2
  have hl2 : s.traits.length ≤ 1048576 := by omega
  simp (config := {contextual := true, implicitDefEqProofs := false, maxSteps := 2000000}) [-Int.not_le, -Int.not_lt, argsF, laws_FnExactSightingText_c, hat_s.blk, hat_s.esz, hat_s.len, hat_s.els, hne_s, hne1_s, hne2_s.1, hne2_s.2.1, hne2_s.2.2.1, hne2_s.2.2.2.1, hne2_s.2.2.2.2.1, hne2_s.2.2.2.2.2.1, hne2_s.2.2.2.2.2.2.1, hne2_s.2.2.2.2.2.2.2.1, hne2_s.2.2.2.2.2.2.2.2.1, hne2_s.2.2.2.2.2.2.2.2.2.1, hne2_s.2.2.2.2.2.2.2.2.2.2, htx_s, hsr, hsp, hst, hss, hsk, hz, hl2, hI, siCells]
  trace_state
  (refine Out.plain hwf ?_ rfl ?_; (repeat first | exact Sub.refl _ | refine Sub.push hwf ?_ _ | refine Sub.set hwf ?_ (by first | exact Nat.le_refl _ | omega) _ | refine Sub.kill hwf ?_ (by first | exact Nat.le_refl _ | omega))); exact h

def laidL : List (String × DataW Unit) := [("math/bits.deBruijn32tab", Rows.laid_math_bits_deBruijn32tab), ("math/bits.deBruijn64tab", Rows.laid_math_bits_deBruijn64tab), ("internal/strconv.uint64pow10", Rows.laid_internal_strconv_uint64pow10)]
theorem own : ownKnob Tryd.prog.godebug = none := by kernel_rfl
theorem laidOut : laidOutB Tryd.prog = true := by kernel_rfl
theorem gTab0 : ((Tryd.prog.globalNamed "internal/strconv.uint64pow10").bind fun g => ((Tryd.prog.globals[g]?).map (·.type)).map fun t => (Tryd.prog.underlying t, Tryd.prog.cellsOf t)) = some (some (.array 20 45), 20) := by kernel_rfl
theorem gTab : ∃ g, Tryd.prog.globalNamed "internal/strconv.uint64pow10" = some g ∧ ∃ t, (Tryd.prog.globals[g]?).map (·.type) = some t ∧ Tryd.prog.underlying t = some (.array 20 45) ∧ Tryd.prog.cellsOf t = 20 := by
  obtain ⟨g, hg, h⟩ := Option.bind_eq_some_iff.1 gTab0
  obtain ⟨t, ht, h⟩ := Option.map_eq_some_iff.1 h
  simp only [Prod.mk.injEq] at h
  exact ⟨g, hg, t, ht, h.1, h.2⟩
theorem tab_of_laid {W : World} (h : laidMetH Tryd.prog laidL W) : tabI W := by
  rw [MakeChecks.laidMetH_plain _ _ _ (by kernel_rfl)] at h
  obtain ⟨ps, ⟨g0, t0, cs0, f0, p0, q0, hg0, ht0, hv0, hd0, ⟨g1, t1, cs1, f1, p1, q1, hg1, ht1, hv1, hd1, ⟨g2, t2, cs2, f2, p2, q2, hg2, ht2, hv2, hd2, _, _⟩, _⟩, _⟩, _⟩ := h
  obtain ⟨g, eg, t, et, eu, ec⟩ := gTab
  obtain rfl := Option.some.inj (eg.symm.trans hg2)
  obtain rfl := Option.some.inj (et.symm.trans ht2)
  unfold tabI Lib.TabIs
  rw [hv2, ← Lib.cells_of_tab (k := .u64) (zs := Lib.pow10Tab) eu Tryd.underlying45 (by kernel_rfl) ec hd2]
theorem door_met (os : Os) (args : Array Value) : laidMetH Tryd.prog laidL ((World.doorLaid Tryd.prog 400 os).forCall (fun _ _ => 0) ⟨#[], args, []⟩).memory :=
  laidMetH_of_parts3 (fuel := 8) (laidMet_of_run' 8 (by kernel_rfl) (by kernel_rfl)) (by kernel_rfl) (by kernel_rfl)

/-- a field that is an integer -/
theorem fld_int {H : Type} {enc : TypeId × Value → H} {P : Program} {W : World} {t : TypeId} {k : IntKind} {n o j : Nat} {cs : List Value} {ys : List (DataW H × List MemPlace)} (hu : P.underlying t = some (.int k)) (h1 : P.cellsOf t = 1)
    (hj : j < ys.length) (h : DataW.trod enc P W 0 (fun _ => true) true n t ((cs.drop o).take (P.cellsOf t)) = ys[j]?) : ∃ m, cs[o]? = some (.int k m) ∧ (Lit.int k m).wf = true := by
  rw [List.getElem?_eq_getElem hj, h1] at h
  obtain ⟨m, hm, _, hw⟩ := DataW.trod_int hu h
  refine ⟨m, ?_, hw⟩
  have : ((cs.drop o).take 1)[0]? = some (.int k m) := by rw [hm]; rfl
  simpa using this
/-- a field that is a text -/
theorem fld_str {H : Type} {enc : TypeId × Value → H} {P : Program} {W : World} {t : TypeId} {n o j : Nat} {cs : List Value} {ys : List (DataW H × List MemPlace)} (hu : P.underlying t = some .string) (h1 : P.cellsOf t = 1)
    (hj : j < ys.length) (h : DataW.trod enc P W 0 (fun _ => true) true n t ((cs.drop o).take (P.cellsOf t)) = ys[j]?) : ∃ s : ByteArray, cs[o]? = some (.string s) ∧ s.size ≤ maxLen := by
  rw [List.getElem?_eq_getElem hj, h1] at h
  obtain ⟨s, hm, _, hs⟩ := DataW.trod_string hu h
  refine ⟨s, ?_, hs⟩
  have : ((cs.drop o).take 1)[0]? = some (.string s) := by rw [hm]; rfl
  simpa using this

theorem open_ints {H : Type} {enc : TypeId × Value → H} {W : World} {fuel : Nat} {cs : List Value} {x : DataW H × List MemPlace}
    (h : DataW.trod enc Tryd.prog W 0 (fun _ => true) true fuel 22 cs = some x) : ∃ v ps pl, cs = [v] ∧ ArgS eI 3 W v ps pl := by
  rcases open_slice Tryd.underlying22 h with ⟨hcs, _⟩ | ⟨a, len, cap, m, n, D, Pl, hcs, _, hl, hm, hmm, _, hx⟩
  · exact ⟨_, [], _, hcs, argS_nil eI _ W⟩
  · have := argS_of eI 3 (by decide) hl hm (w := W) (a := a) fun i hi => by
      obtain ⟨cs', hc, ht⟩ := hx i (by simp at hmm; omega)
      rw [show Tryd.prog.cellsOf 3 = 1 by kernel_rfl] at hc
      obtain ⟨m0, rfl, _⟩ := DataW.trod_int Tryd.underlying3 ht
      obtain ⟨_, hcl, hat⟩ := World.cells?_some hc
      refine ⟨m0, fun j c hj => ?_⟩
      have hj5 : j < 1 := (List.getElem?_eq_some_iff.1 hj).1
      rw [← Go.Deep.add_add, eI_n, hat j hj5]
      match j, hj5, hj with
      | 0, _, hj => cases hj; exact ⟨_, rfl, fun _ _ => rfl⟩
    obtain ⟨ps, pl, ha⟩ := this
    exact ⟨_, ps, pl, hcs, ha⟩
theorem fld_ints {H : Type} {enc : TypeId × Value → H} {W : World} {n o j : Nat} {cs : List Value} {ys : List (DataW H × List MemPlace)} (h1 : Tryd.prog.cellsOf 22 = 1)
    (hj : j < ys.length) (h : DataW.trod enc Tryd.prog W 0 (fun _ => true) true n 22 ((cs.drop o).take (Tryd.prog.cellsOf 22)) = ys[j]?) : ∃ v l pl, cs[o]? = some v ∧ ArgS eI 3 W v l pl := by
  rw [List.getElem?_eq_getElem hj, h1] at h
  obtain ⟨v3, l3, pl3, hc3, ha3⟩ := open_ints h
  refine ⟨v3, l3, pl3, ?_, ha3⟩
  have : ((cs.drop o).take 1)[0]? = some v3 := by rw [hc3]; rfl
  simpa using this
/-- a sighting that was handed in -/
structure ArgSi (w : World) (v : Value) (s : Si) : Prop where
  add : ∀ {φ : Nat → Place} {H : AHeap}, HRep φ ⟨w.heap.size, fun _ => False⟩ H w → ∃ φ' H' b k, HRep φ' ⟨w.heap.size, fun _ => False⟩ H' w ∧ (∀ c, c < H.n → φ' c = φ c) ∧ Sub H H' ∧ RepV φ' H'.n (.agg [.int .i64 s.id, .int .i64 s.year, .str s.town, .sl b 0 s.traits.length]) v ∧ eSi.dec H' [.int .i64 s.id, .int .i64 s.year, .str s.town, .sl b 0 s.traits.length] = some s ∧ k = H'.b b
theorem open_Sighting {H : Type} {enc : TypeId × Value → H} {W : World} {base : Nat} {v : Value} {d : DataW H} {p : List MemPlace} (hv : Value.okWide Tryd.prog W .any base 24 v)
    (h : DataW.Trod enc Tryd.prog W 0 (fun _ => true) true 24 v d p) : ∃ x : Si, ArgSi W v x := by
  obtain ⟨cs, rfl, hsz⟩ := okWide_struct Tryd.underlying24 hv
  obtain ⟨fuel, hf⟩ := h
  obtain ⟨ys, n', hn', hy, hlen, hyl, hfs⟩ := DataW.trod_struct Tryd.underlying24 hf
  have h5 : ys.length = 4 := hyl
  rw [show Tryd.prog.cellsOf 24 = 4 by kernel_rfl] at hsz
  have c3 : Tryd.prog.cellsOf 3 = 1 := by kernel_rfl
  have c4 : Tryd.prog.cellsOf 9 = 1 := by kernel_rfl
  have c5 : Tryd.prog.cellsOf 22 = 1 := by kernel_rfl
  obtain ⟨n0, g0, _⟩ := fld_int Tryd.underlying3 c3 (by omega) (hfs 0 _ rfl)
  obtain ⟨n1, g1, _⟩ := fld_int Tryd.underlying3 c3 (by omega) (hfs 1 _ rfl)
  obtain ⟨n2, g2, hm2⟩ := fld_str Tryd.underlying9 c4 (by omega) (hfs 2 _ rfl)
  obtain ⟨v3, l3, pl3, g3, ha3⟩ := fld_ints c5 (by omega) (hfs 3 _ rfl)
  obtain ⟨l⟩ := cs
  match l, hsz with
  | [a0, a1, a2, a3], _ =>
    simp [Value.cells] at g0 g1 g2 g3
    refine ⟨⟨n0, n1, n2.data.toList, l3⟩, ⟨fun {φ H} hH => ?_⟩⟩
    obtain ⟨φ', H', b, k, x1, x2, x3, x4, x5⟩ := ha3.add hH
    refine ⟨φ', H', b, H'.b b, x1, x2, x3, ⟨[a0, a1, a2, a3], rfl, ?_⟩, ?_, rfl⟩
    · exact ⟨g0, g1, g2, by rw [g3]; exact x4, trivial⟩
    · have hl := x5.len
      have he := x5.els
      simp only [Nat.zero_add, List.drop_zero] at hl he
      have ht : n2.data.toList.length ≤ 9223372036854775807 := by
        have : n2.data.toList.length = n2.size := rfl
        simp only [maxLen] at hm2
        omega
      have hes : k.esz = 1 := x5.esz
      simp only [eSi]
      rw [if_pos ht]
      simp [rdI, x5.blk, hes, hl, he]

theorem walk_FnExactSightingText {W : World} (htab : tabI W) {v0 : Value} {l0 : Si} (h0 : ArgSi W v0 l0) :
    Calls Tryd.prog 3 #[v0] W fun e W' => e = .returned (.bool true) ∧ Below W.heap.size W W' := by
  obtain ⟨φ0, H0, b0, k0, hH0, hg0, hs0, hr0, ha0, _⟩ := h0.add (hrep0 (fun _ => ⟨0, 0, 0, 0⟩) W (I := tabI) (Lib.tabBelow_of_tabIs htab))
  refine calls_true laws_FnExactSightingText_s (args := [.agg [.int .i64 l0.id, .int .i64 l0.year, .str l0.town, .sl b0 0 l0.traits.length]]) hH0 ⟨hr0, trivial⟩ ?_
  rw [q_tSt_eq]
  refine onv_iff.2 ⟨_, ha0, ?_⟩
  refine ⟨fun w h => by rw [← hs0.2] at h; exact h, ?_⟩
  first | rfl | trivial

set_option maxRecDepth 100000 in
theorem lifted_FnExactSightingText (os : Os) (started : os.Started) (H : Type) (enc : TypeId × Value → H) :
    ReturnsInHanded {} Tryd.checked os 3 .any (fun w args => (Rows.fnExactSightingTextSpec.pre enc Tryd.prog Tryd.f3 [] false w args ∧ laidMetH Tryd.prog laidL w) ∧ sizedMet enc Tryd.prog Tryd.f3 (OpenSpec.ofChange Rows.fnExactSightingTextSpec) false w args)
      (Rows.fnExactSightingTextSpec.post enc Tryd.prog Tryd.f3 false true false false) := by
  refine returnsInHanded_of_change_and (C := Tryd.checked) (X := fun w _ => laidMetH Tryd.prog laidL w) (fun _ _ _ hh h => h.of_heap hh) own started (by kernel_rfl) Tryd.func3
    (ChangeSpec.witness_shaped (enc := enc) (C := Tryd.checked) (os := os) (X := fun w _ => laidMetH Tryd.prog laidL w) false (World.doorLaid Tryd.prog 400 os) #[.agg #[.int .i64 0, .int .i64 0, .string ⟨#[]⟩, .slice none 0 0]] 8 rfl (World.shaped_of_RefB (by kernel_rfl) (by kernel_rfl)) (by kernel_rfl) (by kernel_rfl) (by kernel_rfl) (door_met os _)) ?_
  intro W base args ds gs before hval0 hW _ _ hL _
  have hval : ∀ (j : Nat) t v, Tryd.f3.params[j]? = some t → args[j]? = some v → Value.okWide Tryd.prog W .any base t v := hval0
  have hW' := hW
  obtain ⟨p, q, hA0, hV, rfl, hfz, hnd⟩ := hW
  have hA : DataW.TrodAll enc Tryd.prog W 0 (fun _ => true) true Tryd.f3.params.toList args.toList ds p := hA0
  rw [Tryd.params3] at hA hval
  obtain ⟨v0, vs0, d0, ds0, p0, q0, hargs0, rfl, rfl, h0, r0⟩ := trodAll_cons hA
  obtain ⟨hnil, rfl, rfl⟩ := trodAll_nil r0
  obtain rfl : args = #[v0] := by cases args; simp_all
  obtain ⟨rfl, rfl⟩ := trodVars_none hV
  have k0 := h0
  have lt0 : ∀ x ∈ p0, x.block < W.heap.size := by obtain ⟨m, hm⟩ := k0; exact DataW.trod_lt m _ _ _ hm
  obtain ⟨l0, ha0⟩ := open_Sighting (hval 0 24 v0 rfl rfl) h0
  clear hA0 hval0
  refine (walk_FnExactSightingText (tab_of_laid hL) ha0).mono fun e W' ⟨he, bel⟩ => ?_
  subst he
  exact ⟨_, rfl, _, _, _, [], _, [], hW', trodAll_mk1 (shut_bool Tryd.underlying4 _), (trodAll_cons_mk (Below.trod laidOut (by kernel_rfl) (of_decide_eq_true (by kernel_rfl)) k0 bel lt0) trodAll_mk0), rfl, bel.frame _, fun h => by cases h⟩
theorem over_FnExactSightingText : Rows.FnExactSightingTextSaid :=
  OpenClaim.holds_of_wide 3 Tryd.f3 rfl rfl rfl rfl rfl rfl rfl ⟨rfl, rfl, rfl, rfl, rfl⟩ rfl rfl rfl rfl rfl (by kernel_rfl) Tryd.func3 (by kernel_rfl)
    (of_decide_eq_true (by kernel_rfl)) (by unfold Func.isWrapper; first | (rw [if_pos (by decide +kernel)]; kernel_rfl) | (rw [if_neg (by decide +kernel)]; exact ⟨rfl, rfl⟩))
    (fun os started H enc _ => lifted_FnExactSightingText os started H enc)
theorem proved_SightingText : Rows.FnExactSightingTextCardSaid :=
  Claim7.holds_tied_plain_at .later [] [.data, .data, .data] true (true, "04d011f9d0d643daf4bab9ec6702cddd93fd7e5ea420660e3c70043e53df8d84") false
    over_FnExactSightingText (fun _ h => by cases h) (by kernel_rfl) (fun _ h => by cases h) fnExactSightingText_row_tie rfl ⟨rfl, rfl⟩ (by kernel_rfl) rfl
    (fun f fn hf hfn => by
      obtain rfl : f = 3 := Option.some.inj ((show Tryd.prog.funcNamed "loop.example/g01062/laws.FnExactSightingText" = some 3 by kernel_rfl).symm.trans hf) |>.symm
      obtain rfl : fn = Tryd.f3 := (Option.some.inj (Tryd.func3.symm.trans hfn)).symm
      exact ⟨by kernel_rfl, fun j t ht => by
        rw [Tryd.params3] at ht
        have hall : ∀ t ∈ [24], Tryd.prog.wantsStandIn t = false := by
          intro t ht
          simp only [List.mem_cons, List.not_mem_nil, or_false] at ht
          rcases ht with rfl <;> kernel_rfl
        exact hall t (List.mem_of_getElem? (by simpa using ht))⟩)
    (by kernel_rfl)

end Go.Proofs.YtnbjiigcldmgoaaDoor
