/- It is proved that the law FnExactPostmarkText returns true and leaves its arguments as they were (the tied card). No condition beyond the card's own: the listed tables of Go's library, tied to the program's text. -/
import Derived.Test.YtnehhdcaknppnaaDoorTkP0
import Derived.Test.YtnehhdcaknppnaaDoorPoTx
import Derived.Test.YtnehhdcaknppnaaDoorLawA
import Derived.OpenShut
import Derived.LaidMore
import Derived.Stop.Joined
import Derived.Lib.AppendIntMem
import Derived.SevenTiedAt
import Derived.Test.YtnehhdcaknppnaaDoorRows
import Derived.Test.YtnehhdcaknppnaaDoorTie
import Derived.Test.YtnehhdcaknppnaaDoorCards
import Derived.Lay
import Derived.MakeChecks
set_option maxRecDepth 8000
set_option maxHeartbeats 1000000
set_option linter.unusedSimpArgs false
set_option linter.unusedVariables false
namespace Go.Proofs.YtnehhdcaknppnaaDoor
open Go Go.ChangeShapes Go.WideShapes Go.ChangeAt Go.RowKit Go.Deep Go

def q_tPostmarkText : Con := fun args H K => match args with
  | [.agg p_e] => onv (ePoB.dec p_e) fun p => (∀ w, H.I w → tabI w) ∧ K (.c (.bool (true))) H
  | _ => False
@[simp ↓] theorem q_tPostmarkText_eq (p_e : List AC) (H : AHeap) (K : AV → AHeap → Prop) : q_tPostmarkText [.agg p_e] H K = (onv (ePoB.dec p_e) fun p => (∀ w, H.I w → tabI w) ∧ K (.c (.bool (true))) H) := rfl

theorem laws_FnExactPostmarkText_s : Sound Tryd.prog 11 q_tPostmarkText := by
  intro args H K h
  unfold q_tPostmarkText at h
  split at h
  rotate_left
  all_goals first | exact False.elim h | skip
  rename_i p_e
  have h1 := onv_iff.1 h
  clear h
  obtain ⟨p, hd_p, h⟩ := h1
  obtain rfl := ePoB.cd _ _ hd_p
  clear hd_p
  have hE := soundE_cons laws_szPostmark_s (soundE_cons laws_toPostmark_s (soundE_cons impl_PostmarkText_s (soundE_cons spec_PostmarkText_s (soundE_nil (P := Tryd.prog)))))
  refine acalls_fn laws_FnExactPostmarkText_k hE ⟨by simp, fun hwf => ?_⟩
  obtain ⟨hI, h⟩ := h
  have hok := p.ok
  by_cases hz : szPo p.p 1048576 < 0
  · simp (config := {contextual := true, implicitDefEqProofs := false, maxSteps := 2000000}) [-Int.not_le, -Int.not_lt, argsF, laws_FnExactPostmarkText_c, hz, hok, hI]
    (refine Out.plain hwf ?_ rfl ?_; (repeat first | exact Sub.refl _ | refine Sub.push hwf ?_ _ | refine Sub.set hwf ?_ (by first | exact Nat.le_refl _ | omega) _ | refine Sub.kill hwf ?_ (by first | exact Nat.le_refl _ | omega))); exact h
  simp (config := {contextual := true, implicitDefEqProofs := false, maxSteps := 2000000}) [-Int.not_le, -Int.not_lt, argsF, laws_FnExactPostmarkText_c, hz, hok, hI]
  (refine Out.plain hwf ?_ rfl ?_; (repeat first | exact Sub.refl _ | refine Sub.push hwf ?_ _ | refine Sub.set hwf ?_ (by first | exact Nat.le_refl _ | omega) _ | refine Sub.kill hwf ?_ (by first | exact Nat.le_refl _ | omega))); exact h

def laidL : List (String × DataW Unit) := [("math/bits.deBruijn32tab", Rows.laid_math_bits_deBruijn32tab), ("math/bits.deBruijn64tab", Rows.laid_math_bits_deBruijn64tab), ("internal/strconv.uint64pow10", Rows.laid_internal_strconv_uint64pow10), ("unicode/utf8.acceptRanges", Rows.laid_unicode_utf8_acceptRanges), ("unicode/utf8.first", Rows.laid_unicode_utf8_first)]
theorem own : ownKnob Tryd.prog.godebug = none := by kernel_rfl
theorem laidOut : laidOutB Tryd.prog = true := by kernel_rfl
theorem gTab0 : ((Tryd.prog.globalNamed "internal/strconv.uint64pow10").bind fun g => ((Tryd.prog.globals[g]?).map (·.type)).map fun t => (Tryd.prog.underlying t, Tryd.prog.cellsOf t)) = some (some (.array 20 88), 20) := by kernel_rfl
theorem gTab : ∃ g, Tryd.prog.globalNamed "internal/strconv.uint64pow10" = some g ∧ ∃ t, (Tryd.prog.globals[g]?).map (·.type) = some t ∧ Tryd.prog.underlying t = some (.array 20 88) ∧ Tryd.prog.cellsOf t = 20 := by
  obtain ⟨g, hg, h⟩ := Option.bind_eq_some_iff.1 gTab0
  obtain ⟨t, ht, h⟩ := Option.map_eq_some_iff.1 h
  simp only [Prod.mk.injEq] at h
  exact ⟨g, hg, t, ht, h.1, h.2⟩
theorem tab_of_laid {W : World} (h : laidMetH Tryd.prog laidL W) : tabI W := by
  rw [MakeChecks.laidMetH_plain _ _ _ (by kernel_rfl)] at h
  obtain ⟨ps, ⟨g0, t0, cs0, f0, p0, q0, hg0, ht0, hv0, hd0, ⟨g1, t1, cs1, f1, p1, q1, hg1, ht1, hv1, hd1, ⟨g2, t2, cs2, f2, p2, q2, hg2, ht2, hv2, hd2, ⟨g3, t3, cs3, f3, p3, q3, hg3, ht3, hv3, hd3, ⟨g4, t4, cs4, f4, p4, q4, hg4, ht4, hv4, hd4, _, _⟩, _⟩, _⟩, _⟩, _⟩, _⟩ := h
  obtain ⟨g, eg, t, et, eu, ec⟩ := gTab
  obtain rfl := Option.some.inj (eg.symm.trans hg2)
  obtain rfl := Option.some.inj (et.symm.trans ht2)
  unfold tabI Lib.TabIs
  rw [hv2, ← Lib.cells_of_tab (k := .u64) (zs := Lib.pow10Tab) eu Tryd.underlying88 (by kernel_rfl) ec hd2]

theorem door_met (os : Os) (args : Array Value) : laidMetH Tryd.prog laidL ((World.laidAll Tryd.prog os laidL).forCall (fun _ _ => 0) ⟨#[], args, []⟩).memory := by
  rw [MakeChecks.laidMetH_plain _ _ _ (by kernel_rfl)]
  exact laidMet_laidAll _ (by kernel_rfl) (by kernel_rfl)
theorem start_ok (os : Os) (args : Array Value) : ((World.laidAll Tryd.prog os laidL).forCall (fun _ _ => 0) ⟨#[], args, []⟩).Shaped Tryd.prog := World.shaped_of_ZipB (by kernel_rfl) (by kernel_rfl)
/-- a field that is an integer -/
theorem fld_int {H : Type} {enc : TypeId × Value → H} {P : Program} {W : World} {t : TypeId} {k : IntKind} {n o j : Nat} {cs : List Value} {ys : List (DataW H × List MemPlace)} (hu : P.underlying t = some (.int k)) (h1 : P.cellsOf t = 1)
    (hj : j < ys.length) (h : DataW.trod enc P W 0 (fun _ => true) true n t ((cs.drop o).take (P.cellsOf t)) = ys[j]?) : ∃ m, cs[o]? = some (.int k m) ∧ (Lit.int k m).wf = true := by
  rw [List.getElem?_eq_getElem hj, h1] at h
  obtain ⟨m, hm, _, hw⟩ := DataW.trod_int hu h
  refine ⟨m, ?_, hw⟩
  have : ((cs.drop o).take 1)[0]? = some (.int k m) := by rw [hm]; rfl
  simpa using this
/-- a field that is a text -/
theorem fld_str {H : Type} {enc : TypeId × Value → H} {P : Program} {W : World} {t : TypeId} {n o j : Nat} {cs : List Value} {ys : List (DataW H × List MemPlace)} (hu : P.underlying t = some .string) (h1 : P.cellsOf t = 1)
    (hj : j < ys.length) (h : DataW.trod enc P W 0 (fun _ => true) true n t ((cs.drop o).take (P.cellsOf t)) = ys[j]?) : ∃ s : ByteArray, cs[o]? = some (.string s) ∧ s.size ≤ maxLen := by
  rw [List.getElem?_eq_getElem hj, h1] at h
  obtain ⟨s, hm, _, hs⟩ := DataW.trod_string hu h
  refine ⟨s, ?_, hs⟩
  have : ((cs.drop o).take 1)[0]? = some (.string s) := by rw [hm]; rfl
  simpa using this

theorem open_Postmark {H : Type} {enc : TypeId × Value → H} {W : World} {base : Nat} {v : Value} {d : DataW H} {p : List MemPlace} (hv : Value.okWide Tryd.prog W .any base 23 v)
    (h : DataW.Trod enc Tryd.prog W 0 (fun _ => true) true 23 v d p) : ∃ x : PoB, v = .agg #[.int .i64 x.p.id, .string ⟨x.p.town.toArray⟩, .int .i64 x.p.kind, .int .i64 x.p.first, .int .i64 x.p.last, .string ⟨x.p.lost.toArray⟩] := by
  obtain ⟨cs, rfl, hsz⟩ := okWide_struct Tryd.underlying23 hv
  obtain ⟨fuel, hf⟩ := h
  obtain ⟨ys, n', hn', hy, hlen, hyl, hfs⟩ := DataW.trod_struct Tryd.underlying23 hf
  have h5 : ys.length = 6 := hyl
  rw [show Tryd.prog.cellsOf 23 = 6 by kernel_rfl] at hsz
  have c3 : Tryd.prog.cellsOf 3 = 1 := by kernel_rfl
  have c4 : Tryd.prog.cellsOf 9 = 1 := by kernel_rfl
  obtain ⟨n0, g0, m0⟩ := fld_int Tryd.underlying3 c3 (by omega) (hfs 0 _ rfl)
  obtain ⟨n1, g1, m1⟩ := fld_str Tryd.underlying9 c4 (by omega) (hfs 1 _ rfl)
  obtain ⟨n2, g2, m2⟩ := fld_int Tryd.underlying3 c3 (by omega) (hfs 2 _ rfl)
  obtain ⟨n3, g3, m3⟩ := fld_int Tryd.underlying3 c3 (by omega) (hfs 3 _ rfl)
  obtain ⟨n4, g4, m4⟩ := fld_int Tryd.underlying3 c3 (by omega) (hfs 4 _ rfl)
  obtain ⟨n5, g5, m5⟩ := fld_str Tryd.underlying9 c4 (by omega) (hfs 5 _ rfl)
  obtain ⟨l⟩ := cs
  match l, hsz with
  | [a0, a1, a2, a3, a4, a5], _ =>
    simp [Value.cells] at g0 g1 g2 g3 g4 g5
    exact ⟨⟨⟨n0, n1.data.toList, n2, n3, n4, n5.data.toList⟩, ⟨by show n1.data.toList.length ≤ 9223372036854775807; have hq : n1.data.toList.length = n1.size := rfl; simp only [maxLen] at m1; omega, by show n5.data.toList.length ≤ 9223372036854775807; have hq : n5.data.toList.length = n5.size := rfl; simp only [maxLen] at m5; omega⟩⟩, by simp [g0, g1, g2, g3, g4, g5]⟩

theorem walk_FnExactPostmarkText {W : World} (htab : tabI W) (x0 : PoB) :
    Calls Tryd.prog 11 #[.agg #[.int .i64 x0.p.id, .string ⟨x0.p.town.toArray⟩, .int .i64 x0.p.kind, .int .i64 x0.p.first, .int .i64 x0.p.last, .string ⟨x0.p.lost.toArray⟩]] W fun e W' => e = .returned (.bool true) ∧ Below W.heap.size W W' := by
  refine calls_true laws_FnExactPostmarkText_s (args := [.agg (ePoB.cells x0)]) (hrep0 (fun _ => ⟨0, 0, 0, 0⟩) W (I := tabI) (Lib.tabBelow_of_tabIs htab)) ⟨⟨_, rfl, rfl, rfl, rfl, rfl, rfl, rfl, trivial⟩, trivial⟩ ?_
  unfold q_tPostmarkText
  simp [AHeap.push, H0]

set_option maxRecDepth 100000 in
theorem lifted_FnExactPostmarkText (os : Os) (started : os.Started) (H : Type) (enc : TypeId × Value → H) :
    ReturnsInHanded {} Tryd.checked os 11 .any (fun w args => (Rows.fnExactPostmarkTextSpec.pre enc Tryd.prog Tryd.f11 [] false w args ∧ laidMetH Tryd.prog laidL w) ∧ sizedMet enc Tryd.prog Tryd.f11 (OpenSpec.ofChange Rows.fnExactPostmarkTextSpec) false w args)
      (Rows.fnExactPostmarkTextSpec.post enc Tryd.prog Tryd.f11 false true false false) := by
  refine returnsInHanded_of_change_and (C := Tryd.checked) (X := fun w _ => laidMetH Tryd.prog laidL w) (fun _ _ _ hh h => h.of_heap hh) own started (by kernel_rfl) Tryd.func11
    (ChangeSpec.witness_shaped (enc := enc) (C := Tryd.checked) (os := os) (X := fun w _ => laidMetH Tryd.prog laidL w) false (World.laidAll Tryd.prog os laidL) #[.agg #[.int .i64 0, .string ⟨#[]⟩, .int .i64 0, .int .i64 0, .int .i64 0, .string ⟨#[]⟩]] 8 (World.laidAll_os _ _ _) (start_ok os _) (by kernel_rfl) (by kernel_rfl) (by kernel_rfl) (door_met os _)) ?_
  intro W base args ds gs before hval0 hW _ _ hL _
  have hval : ∀ (j : Nat) t v, Tryd.f11.params[j]? = some t → args[j]? = some v → Value.okWide Tryd.prog W .any base t v := hval0
  have hW' := hW
  obtain ⟨p, q, hA0, hV, rfl, hfz, hnd⟩ := hW
  have hA : DataW.TrodAll enc Tryd.prog W 0 (fun _ => true) true Tryd.f11.params.toList args.toList ds p := hA0
  rw [Tryd.params11] at hA hval
  obtain ⟨v0, vs0, d0, ds0, p0, q0, hargs0, rfl, rfl, h0, r0⟩ := trodAll_cons hA
  obtain ⟨hnil, rfl, rfl⟩ := trodAll_nil r0
  obtain rfl : args = #[v0] := by cases args; simp_all
  obtain ⟨rfl, rfl⟩ := trodVars_none hV
  have k0 := h0
  have lt0 : ∀ x ∈ p0, x.block < W.heap.size := by obtain ⟨m, hm⟩ := k0; exact DataW.trod_lt m _ _ _ hm
  obtain ⟨x0, hv0⟩ := open_Postmark (hval 0 23 v0 rfl rfl) h0
  subst hv0
  clear hA0 hval0
  refine (walk_FnExactPostmarkText (tab_of_laid hL) x0).mono fun e W' ⟨he, bel⟩ => ?_
  subst he
  exact ⟨_, rfl, _, _, _, [], _, [], hW', trodAll_mk1 (shut_bool Tryd.underlying4 _), (trodAll_cons_mk (Below.trod laidOut (by kernel_rfl) (of_decide_eq_true (by kernel_rfl)) k0 bel lt0) trodAll_mk0), rfl, bel.frame _, fun h => by cases h⟩
theorem over_FnExactPostmarkText : Rows.FnExactPostmarkTextSaid :=
  OpenClaim.holds_of_wide 11 Tryd.f11 rfl rfl rfl rfl rfl rfl rfl ⟨rfl, rfl, rfl, rfl, rfl⟩ rfl rfl rfl rfl rfl (by kernel_rfl) Tryd.func11 (by kernel_rfl)
    (of_decide_eq_true (by kernel_rfl)) (by unfold Func.isWrapper; first | (rw [if_pos (by decide +kernel)]; kernel_rfl) | (rw [if_neg (by decide +kernel)]; exact ⟨rfl, rfl⟩))
    (fun os started H enc _ => lifted_FnExactPostmarkText os started H enc)
theorem proved_PostmarkText : Rows.FnExactPostmarkTextCardSaid :=
  Claim7.holds_tied_plain_at .later [] [.data, .data, .data, .data, .pinned] true (true, "9fb4f24bf239f7daac83b0db35a9f144efb1d6a6699eaae542ca6ae614654b51") false
    over_FnExactPostmarkText (fun _ h => by cases h) (by kernel_rfl) (fun _ h => by cases h) fnExactPostmarkText_row_tie rfl ⟨rfl, rfl⟩ (by kernel_rfl) rfl
    (fun f fn hf hfn => by
      obtain rfl : f = 11 := Option.some.inj ((show Tryd.prog.funcNamed "loop.example/g01062/laws.FnExactPostmarkText" = some 11 by kernel_rfl).symm.trans hf) |>.symm
      obtain rfl : fn = Tryd.f11 := (Option.some.inj (Tryd.func11.symm.trans hfn)).symm
      exact ⟨by kernel_rfl, fun j t ht => by
        rw [Tryd.params11] at ht
        have hall : ∀ t ∈ [23], Tryd.prog.wantsStandIn t = false := by
          intro t ht
          simp only [List.mem_cons, List.not_mem_nil, or_false] at ht
          rcases ht with rfl <;> kernel_rfl
        exact hall t (List.mem_of_getElem? (by simpa using ht))⟩)
    (by kernel_rfl)

end Go.Proofs.YtnehhdcaknppnaaDoor
