/- It is proved that the law FnPostmarks returns true and leaves its argument as it was (the tied card). No condition beyond the card's own: the listed tables of Go's library, tied to the program's text. -/
import Derived.Test.YtnehhdcaknppnaaDoorPoLp
import Derived.Test.YtnehhdcaknppnaaDoorLawB
import Derived.Test.YtnehhdcaknppnaaDoorLawA
import Derived.OpenShut
import Derived.LaidMore
import Derived.Stop.Joined
import Derived.Lib.AppendIntMem
import Derived.SevenTiedAt
import Derived.Test.YtnehhdcaknppnaaDoorRows
import Derived.Test.YtnehhdcaknppnaaDoorTie
import Derived.Test.YtnehhdcaknppnaaDoorCards
import Derived.Lay
import Derived.MakeChecks
set_option maxRecDepth 8000
set_option maxHeartbeats 1000000
set_option linter.unusedSimpArgs false
set_option linter.unusedVariables false
namespace Go.Proofs.YtnehhdcaknppnaaDoor
open Go Go.ChangeShapes Go.WideShapes Go.ChangeAt Go.RowKit Go.Deep Go

def laidL : List (String × DataW Unit) := [("unicode/utf8.acceptRanges", Rows.laid_unicode_utf8_acceptRanges), ("unicode/utf8.first", Rows.laid_unicode_utf8_first)]
theorem own : ownKnob Tryd.prog.godebug = none := by kernel_rfl
theorem laidOut : laidOutB Tryd.prog = true := by kernel_rfl
theorem door_met (os : Os) (args : Array Value) : laidMetH Tryd.prog laidL ((World.laidAll Tryd.prog os laidL).forCall (fun _ _ => 0) ⟨#[], args, []⟩).memory := by
  rw [MakeChecks.laidMetH_plain _ _ _ (by kernel_rfl)]
  exact laidMet_laidAll _ (by kernel_rfl) (by kernel_rfl)
theorem start_ok (os : Os) (args : Array Value) : ((World.laidAll Tryd.prog os laidL).forCall (fun _ _ => 0) ⟨#[], args, []⟩).Shaped Tryd.prog := World.shaped_of_ZipB (by kernel_rfl) (by kernel_rfl)

/-- a field that is an integer -/
theorem fld_int {H : Type} {enc : TypeId × Value → H} {P : Program} {W : World} {t : TypeId} {k : IntKind} {n o j : Nat} {cs : List Value} {ys : List (DataW H × List MemPlace)} (hu : P.underlying t = some (.int k)) (h1 : P.cellsOf t = 1)
    (hj : j < ys.length) (h : DataW.trod enc P W 0 (fun _ => true) true n t ((cs.drop o).take (P.cellsOf t)) = ys[j]?) : ∃ m, cs[o]? = some (.int k m) ∧ (Lit.int k m).wf = true := by
  rw [List.getElem?_eq_getElem hj, h1] at h
  obtain ⟨m, hm, _, hw⟩ := DataW.trod_int hu h
  refine ⟨m, ?_, hw⟩
  have : ((cs.drop o).take 1)[0]? = some (.int k m) := by rw [hm]; rfl
  simpa using this
/-- a field that is a text -/
theorem fld_str {H : Type} {enc : TypeId × Value → H} {P : Program} {W : World} {t : TypeId} {n o j : Nat} {cs : List Value} {ys : List (DataW H × List MemPlace)} (hu : P.underlying t = some .string) (h1 : P.cellsOf t = 1)
    (hj : j < ys.length) (h : DataW.trod enc P W 0 (fun _ => true) true n t ((cs.drop o).take (P.cellsOf t)) = ys[j]?) : ∃ s : ByteArray, cs[o]? = some (.string s) ∧ s.size ≤ maxLen := by
  rw [List.getElem?_eq_getElem hj, h1] at h
  obtain ⟨s, hm, _, hs⟩ := DataW.trod_string hu h
  refine ⟨s, ?_, hs⟩
  have : ((cs.drop o).take 1)[0]? = some (.string s) := by rw [hm]; rfl
  simpa using this

theorem maxl_below {W : World} (h : maxlI W) : ∀ W', Below W.heap.size W W' → maxlI W' := fun W' hb => by
  obtain ⟨m, hm⟩ := h
  exact ⟨m, cell_keep hb hm⟩
theorem maxl_of_shaped {W : World} (h : W.ShapedOpen Tryd.prog) : maxlI W := Tryd.laysM155.s1_3 W h
theorem handed_sh {H : Type} {enc : TypeId × Value → H} {a : Assume} {C : Checked} {os : Os} {f : FuncId} {fn : Func} {s : ChangeSpec} {conds : List PathCond} {apart fresh handsOn again : Bool} {X : World → Array Value → Prop}
    (hX : ∀ (w w' : World) (args : Array Value), w.heap = w'.heap → X w args → X w' args)
    (own : ownKnob C.prog.godebug = none) (started : os.Started) (noInit : C.prog.inits.idxOf? f = none) (hfn : C.prog.funcs[f]? = some fn)
    (witness : ∃ (w : World) (tape : Tape) (i : Input), w.os = os ∧ (w.forCall tape i).Shaped C.prog ∧ i.vars = [] ∧ Input.okWide C.prog (w.forCall tape i) .any w.heap.size f i ∧
      ((s.pre enc C.prog fn conds apart (w.forCall tape i).memory i.args ∧ X (w.forCall tape i).memory i.args) ∧ sizedMet enc C.prog fn (OpenSpec.ofChange s) apart (w.forCall tape i).memory i.args) ∧ a.holds C.prog (lone (Frame.enter C.prog f i.args .normal) [] (w.forCall tape i)))
    (law : ∀ (W : World) (base : Nat) (args : Array Value) (ds gs : List (DataW H)) (before : List MemPlace),
      (∀ (j : Nat) t v, fn.params[j]? = some t → args[j]? = some v → Value.okWide C.prog W .any base t v) →
      DataW.Whole enc C.prog fn.params.toList s.vars apart W args.toList ds gs before →
      conds.all (PathCond.test C.prog ⟨fn.params.toList, ds, s.plain.varTypes C.prog, gs⟩) = true →
      (DataW.weightsEach C.prog (fn.params.toList ++ s.plain.varTypes C.prog) (ds ++ gs)).all (· ≤ reachBytes) = true → X W args → W.ShapedOpen C.prog →
      a.holds C.prog (lone (Frame.enter C.prog f args .normal) [] W) →
      Calls C.prog f args W fun e W' => ∃ v, e = .returned v ∧ s.post enc C.prog fn apart fresh handsOn again W args v W') :
    ReturnsInHanded a C os f .any (fun w args => (s.pre enc C.prog fn conds apart w args ∧ X w args) ∧ sizedMet enc C.prog fn (OpenSpec.ofChange s) apart w args) (s.post enc C.prog fn apart fresh handsOn again) := by
  refine returnsInHanded_of_calls own started noInit witness ?_
  intro w tape i _ hsh _ hok hpre hholds
  obtain ⟨_, _, _, fn', hfn', _, _, _, _, hval⟩ := hok
  have e : fn' = fn := Option.some.inj (hfn'.symm.trans hfn)
  subst e
  obtain ⟨⟨⟨ds, gs, before, hw, hc⟩, hx⟩, hz⟩ := hpre
  have hw' := DataW.Whole.of_heap (w' := w.forCall tape i) (by rfl) hw
  refine (law (w.forCall tape i) w.heap.size i.args ds gs before hval hw' hc (hz.weights hw) (hX _ _ _ (by rfl) hx) hsh hholds).mono fun e W' ⟨v, he, hp⟩ => ?_
  subst he
  exact ChangeSpec.post_blind hp

theorem walk_FnPostmarks {W : World} (htab : maxlI W) {v0 : Value} {l0 : List UInt8} {pl0 : Place} (h0 : ArgS eU 5 W v0 l0 pl0) :
    Calls Tryd.prog 14 #[v0] W fun e W' => e = .returned (.bool true) ∧ Below W.heap.size W W' := by
  obtain ⟨a0, rfl, hl0, ha0⟩ := h0.val
  have hH0 := (hrep0 (fun _ => ⟨0, 0, 0, 0⟩) W (I := maxlI) (maxl_below htab)).addRo (p := pl0) (k := ⟨5, eU.n, true, false, l0.map eU.cells⟩) rfl (h0.cells _ _) h0.lt (by simpa using h0.mx)
  refine calls_true laws_FnPostmarks_s (args := [.c (.sl 0 0 l0.length)]) hH0 ⟨⟨by simp [AHeap.push, H0], a0, pl0.cap, rfl, hl0, by simp [updP, H0, AHeap.push], by simpa [updP, H0, AHeap.push] using ha0⟩, trivial⟩ ?_
  unfold q_tFnPostmarks
  simp [AHeap.push, H0]

set_option maxRecDepth 100000 in
theorem lifted_FnPostmarks (os : Os) (started : os.Started) (H : Type) (enc : TypeId × Value → H) :
    ReturnsInHanded {} Tryd.checked os 14 .any (fun w args => (Rows.fnPostmarksSpec.pre enc Tryd.prog Tryd.f14 [] false w args ∧ laidMetH Tryd.prog laidL w) ∧ sizedMet enc Tryd.prog Tryd.f14 (OpenSpec.ofChange Rows.fnPostmarksSpec) false w args)
      (Rows.fnPostmarksSpec.post enc Tryd.prog Tryd.f14 false true false false) := by
  refine handed_sh (C := Tryd.checked) (X := fun w _ => laidMetH Tryd.prog laidL w) (fun _ _ _ hh h => h.of_heap hh) own started (by kernel_rfl) Tryd.func14
    (ChangeSpec.witness_shaped (enc := enc) (C := Tryd.checked) (os := os) (X := fun w _ => laidMetH Tryd.prog laidL w) false (World.laidAll Tryd.prog os laidL) #[.slice none 0 0] 8 (World.laidAll_os _ _ _) (start_ok os _) (by kernel_rfl) (by kernel_rfl) (by kernel_rfl) (door_met os _)) ?_
  intro W base args ds gs before hval0 hW _ _ hL hSh _
  have hval : ∀ (j : Nat) t v, Tryd.f14.params[j]? = some t → args[j]? = some v → Value.okWide Tryd.prog W .any base t v := hval0
  have hW' := hW
  obtain ⟨p, q, hA0, hV, rfl, hfz, hnd⟩ := hW
  have hA : DataW.TrodAll enc Tryd.prog W 0 (fun _ => true) true Tryd.f14.params.toList args.toList ds p := hA0
  rw [Tryd.params14] at hA hval
  obtain ⟨v0, vs0, d0, ds0, p0, q0, hargs0, rfl, rfl, h0, r0⟩ := trodAll_cons hA
  obtain ⟨hnil, rfl, rfl⟩ := trodAll_nil r0
  obtain rfl : args = #[v0] := by cases args; simp_all
  obtain ⟨rfl, rfl⟩ := trodVars_none hV
  have k0 := h0
  have lt0 : ∀ x ∈ p0, x.block < W.heap.size := by obtain ⟨m, hm⟩ := k0; exact DataW.trod_lt m _ _ _ hm
  obtain ⟨l0, pl0, ha0⟩ := open_ByteS (hval 0 63 v0 rfl rfl) h0
  clear hA0 hval0
  refine (walk_FnPostmarks (maxl_of_shaped hSh) ha0).mono fun e W' ⟨he, bel⟩ => ?_
  subst he
  exact ⟨_, rfl, _, _, _, [], _, [], hW', trodAll_mk1 (shut_bool Tryd.underlying4 _), (trodAll_cons_mk (Below.trod laidOut (by kernel_rfl) (of_decide_eq_true (by kernel_rfl)) k0 bel lt0) trodAll_mk0), rfl, bel.frame _, fun h => by cases h⟩
theorem over_FnPostmarks : Rows.FnPostmarksSaid :=
  OpenClaim.holds_of_wide 14 Tryd.f14 rfl rfl rfl rfl rfl rfl rfl ⟨rfl, rfl, rfl, rfl, rfl⟩ rfl rfl rfl rfl rfl (by kernel_rfl) Tryd.func14 (by kernel_rfl)
    (of_decide_eq_true (by kernel_rfl)) (by unfold Func.isWrapper; first | (rw [if_pos (by decide +kernel)]; kernel_rfl) | (rw [if_neg (by decide +kernel)]; exact ⟨rfl, rfl⟩))
    (fun os started H enc _ => lifted_FnPostmarks os started H enc)
theorem proved_FnPostmarks : Rows.FnPostmarksCardSaid :=
  Claim7.holds_tied_plain_at .later [] [.data, .pinned] true (true, "9fb4f24bf239f7daac83b0db35a9f144efb1d6a6699eaae542ca6ae614654b51") false
    over_FnPostmarks (fun _ h => by cases h) (by kernel_rfl) (fun _ h => by cases h) fnPostmarks_row_tie rfl ⟨rfl, rfl⟩ (by kernel_rfl) rfl
    (fun f fn hf hfn => by
      obtain rfl : f = 14 := Option.some.inj ((show Tryd.prog.funcNamed "loop.example/g01062/laws.FnPostmarks" = some 14 by kernel_rfl).symm.trans hf) |>.symm
      obtain rfl : fn = Tryd.f14 := (Option.some.inj (Tryd.func14.symm.trans hfn)).symm
      exact ⟨by kernel_rfl, fun j t ht => by
        rw [Tryd.params14] at ht
        have hall : ∀ t ∈ [63], Tryd.prog.wantsStandIn t = false := by
          intro t ht
          simp only [List.mem_cons, List.not_mem_nil, or_false] at ht
          rcases ht with rfl <;> kernel_rfl
        exact hall t (List.mem_of_getElem? (by simpa using ht))⟩)
    (by kernel_rfl)

end Go.Proofs.YtnehhdcaknppnaaDoor
