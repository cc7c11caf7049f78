/- The abstract machine, part L: code. Regions, branches, loops; what a function's body does abstractly, and that the model does it. No program is named here. -/
import Derived.Test.YtafenginfojcmaaGreatDoorAbsT
import Derived.Test.YtafenginfojcmaaGreatDoorAbsV
namespace Go.Proofs.YtafenginfojcmaaGreatDoor
open Go.RowKit

inductive ACode where
  | skip
  | reg (ops : List POp) (keep : List Tmp)
  | regQ (ops : List POp) (keep : List Tmp)
  | regT (hd tl : List POp) (keep : List Tmp)
  | regF (hd : List POp) (fl : List Tmp) (ws : List Op) (ks lt : List Tmp) (ops : List POp) (keep : List Tmp)
  | cut (keep : List Tmp) (a : ACode)
  | seq (a b : ACode)
  | cond (c : Operand) (a b : ACode)
  | block (id : Nat) (a : ACode)
  | loop (a : ACode)
  | exit (id : Nat)
  | ret

/-- the same without the lists of slots that are kept -/
inductive SCode where
  | skip
  | reg (ops : List POp)
  | regQ (ops : List POp)
  | regT (hd tl : List POp)
  | regF (hd : List POp) (fl : List Tmp) (ws : List Op) (ks lt : List Tmp) (ops : List POp)
  | seq (a b : SCode)
  | cond (c : Operand) (a b : SCode)
  | block (id : Nat) (a : SCode)
  | loop (a : SCode)
  | exit (id : Nat)
  | ret

def ACode.strip : ACode → SCode
  | .skip => .skip
  | .reg ops _ => .reg ops
  | .regQ ops _ => .regQ ops
  | .regT hd tl _ => .regT hd tl
  | .regF hd fl ws ks lt ops _ => .regF hd fl ws ks lt ops
  | .cut _ a => a.strip
  | .seq a b => .seq a.strip b.strip
  | .cond c a b => .cond c a.strip b.strip
  | .block id a => .block id a.strip
  | .loop a => .loop a.strip
  | .exit id => .exit id
  | .ret => .ret

/-- an operation that makes or writes memory -/
def isEff : Op → Bool
  | .alloc _ => true
  | .box _ _ => true
  | .store _ _ _ => true
  | .buildSlice _ _ _ => true
  | .makeSlice _ _ _ => true
  | .call ⟨.builtin .append, _, _⟩ => true
  | .call ⟨.builtin .copy, _, _⟩ => true
  | _ => false
/-- a region that draws its order, if all of it only reads, or if what reads stands before what writes -/
def drawn (P : Program) (ops : Array Oper) : Option SCode := match ops.toList.findIdx? fun o => isEff o.op with
    | none => if P.follows .mixedOrders = true ∧ Region.lexB .any ops = true then some (.regQ (ops.toList.map (prepOp ops))) else none
    | some n => if P.follows .mixedOrders = true ∧ Region.lexTailB .any ops n = true then some (.regT ((ops.toList.take n).map (prepOp ops)) ((ops.toList.drop n).map (prepOp ops))) else none
/-- a region that draws its order, by a plan -/
def planned (P : Program) (ops : Array Oper) (ms : List Nat) (p : Plan) : Option SCode :=
  if P.follows .mixedOrders = true ∧ planOk ops ms p = true then some (.regF (p.L0.filterMap fun i => (ops[i]?).map (prepOp ops)) (floats ops p.wl p.L) (p.wl.w.filterMap fun i => (ops[i]?).map (·.op)) p.ks (ltOf ops p.wl) (p.L.filterMap fun i => (ops[i]?).map (prepOp ops))) else none
/-- what the model's code is as abstract code; ch: the regions that go by an order, though they would go otherwise too -/
def cmp (P : Program) (ch : Nat → Bool) : Code → Option SCode
  | .skip => some .skip
  | .region _ ops false => some (.reg (ops.toList.map (prepOp ops)))
  | .region id ops true => match (if ch id = true then none else drawn P ops) with
    | some x => some x
    | none => planned P ops (masks ops) (canon ops (masks ops))
  | .seq a b => match cmp P ch a, cmp P ch b with
    | some x, some y => some (.seq x y)
    | _, _ => none
  | .cond c a b => match cmp P ch a, cmp P ch b with
    | some x, some y => some (.cond c x y)
    | _, _ => none
  | .block id a => (cmp P ch a).map (.block id)
  | .loop a => (cmp P ch a).map .loop
  | .exit id => some (.exit id)
  | .ret => some .ret
  | _ => none

def AWp (P : Program) (N n0 : Nat) (c : Code) (F : AFrame) (H : AHeap) (Q : Exit → AFrame → AHeap → Prop) : Prop :=
  ∀ φ0 B w0 φ a w, St N φ0 n0 B w0 φ F H a w → c.wp P (fun e a' w' => ∃ φ' F' H', St N φ0 n0 B w0 φ' F' H' a' w' ∧ Q e F' H') a w

/-- a loop, met abstractly -/
structure ALoop (P : Program) (N n0 : Nat) (a : ACode) (F : AFrame) (H : AHeap) (Q : Exit → AFrame → AHeap → Prop) : Prop where
  run : ∀ (ch : Nat → Bool) (c : Code), cmp P ch c = some a.strip → AWp P N n0 (.loop c) F H Q

def thenQ (Q : Exit → AFrame → AHeap → Prop) (K : AFrame → AHeap → Prop) : Exit → AFrame → AHeap → Prop
  | .normal, F, H => K F H
  | e, F, H => Q e F H
def blockQ (id : Nat) (Q : Exit → AFrame → AHeap → Prop) : Exit → AFrame → AHeap → Prop
  | .exit i, F, H => if i = id then Q .normal F H else Q (.exit i) F H
  | e, F, H => Q e F H

def avc (P : Program) (Γ : Env) (N n0 : Nat) : ACode → AFrame → AHeap → (Exit → AFrame → AHeap → Prop) → Prop
  | .skip, F, H, Q => Q .normal F H
  | .reg ops keep, F, H, Q => aops P Γ N ops F H fun F' H' => Q .normal (F'.keep keep) H'
  | .regQ ops keep, F, H, Q => aopsQ P Γ N H ops F fun F' => Q .normal (F'.keep keep) H
  | .regF hd fl ws ks lt ops keep, F, H, Q => aops P Γ N hd F H fun F' H' => fresh F' fl ∧ wstart P H' F' ws fun vs => kstart H' F' ks fun kb => aopsW P Γ N vs kb lt ops F' H' fun F'' H'' => Q .normal (F''.keep keep) H''
  | .regT hd tl keep, F, H, Q => aopsQ P Γ N H hd F fun F' => aops P Γ N tl F' H fun F'' H'' => Q .normal (F''.keep keep) H''
  | .cut keep a, F, H, Q => avc P Γ N n0 a (F.keep keep) H Q
  | .seq a b, F, H, Q => avc P Γ N n0 a F H (thenQ Q fun F' H' => avc P Γ N n0 b F' H' Q)
  | .cond c a b, F, H, Q => onv (opnd F c) fun
    | .c (.bool t) => (t = true → avc P Γ N n0 a F H Q) ∧ (t = false → avc P Γ N n0 b F H Q)
    | _ => False
  | .block id a, F, H, Q => avc P Γ N n0 a F H (blockQ id Q)
  | .loop a, F, H, Q => ALoop P N n0 a F H Q
  | .exit id, F, H, Q => Q (.exit id) F H
  | .ret, F, H, Q => Q .ret F H

section
variable {P : Program} {Γ : Env} {N n0 : Nat} {φ0 : Nat → Place} {B : Bd} {w0 : World}

/-- the arguments of a call with plain and other values, over the heap that may only be read -/
theorem stepQ_sound (hΓ : SoundE P Γ) {o : Oper} {H : AHeap} {F : AFrame} {K : AV → Prop} {φ : Nat → Place} {a : Act} {wS : World} (hH : HRep φ B H wS) (hF : FRep φ H.n F a.tmps) (h : astepQ P Γ H F o.op K) :
    ∃ v u, K v ∧ RepV φ H.n v u ∧ ∀ w, Below wS.heap.size wS w → o.quietAt P a (Below wS.heap.size wS) w u := by
  unfold astepQ at h
  split at h
  · rename_i f args ts heq
    obtain ⟨fv, hf, h⟩ := onv_iff.1 h
    have he := eval_of hF hf
    split at h
    · rename_i g caps
      obtain ⟨hcl, hx⟩ := (show RepC φ H.n (.fn g caps) _ from he)
      obtain ⟨vs, hvs, r, hp, hc, hK⟩ := onv_iff.1 h
      have hargs := evals_of hF hvs
      obtain ⟨hent, hcall⟩ := hΓ _ _ _ _ hc
      have hall := rept_append hargs (rept_caps (φ := φ) hcl)
      have hrun : ∀ w, (execOp a.eval o).run P w = .ok (.enter g (args.toList.map a.eval ++ caps.map fun b => ptrOf (φ b)).toArray) w := fun w => by
        have e1 : (#[] ++ args.map a.eval) ++ (caps.map fun b => ptrOf (φ b)).toArray = (args.toList.map a.eval ++ caps.map fun b => ptrOf (φ b)).toArray := by
          cases args; simp
        simp only [execOp, heq, resolve, hx, Deferred.ofValue, Sem.run_bind, Sem.run_pure, Result.andThen_ok, invoke, e1]
        exact hent _ _
      have key : ∀ w, Below wS.heap.size wS w → Calls P g (args.toList.map a.eval ++ caps.map fun b => ptrOf (φ b)).toArray w fun e w'' => ∃ u, e = .returned u ∧ RepV φ H.n r u ∧ Below wS.heap.size wS w'' := fun w hw => by
        have hH' := (hH.keep hw).toRo
        refine (hcall φ _ w _ hH' hall).mono ?_
        rintro e w' ⟨r', u, φ', H', rfl, h1, h2, h3, h4, h5, rfl, rfl⟩
        exact ⟨u, rfl, plainV_mono hp h1, hw.trans (h3.below.mono hw.size)⟩
      obtain ⟨e0, w1, fr0, ⟨u, rfl, hu, _⟩, _⟩ := key wS (Below.refl _ _) []
      refine ⟨r, u, hK, hu, fun w hw => ?_⟩
      unfold Oper.quietAt
      rw [hrun w]
      refine ⟨rfl, (key w hw).mono ?_⟩
      rintro e w' ⟨u', rfl, h1, h2⟩
      exact ⟨by rw [plainV_unique hp h1 hu], h2⟩
    · exact h.elim
  · obtain ⟨v, u, h1, h2, h3⟩ := apure_sound (o := o) rfl hH hF h
    refine ⟨v, u, h1, h2, fun w hw => ?_⟩
    unfold Oper.quietAt
    rw [h3 w hw]
    exact ⟨rfl, rfl⟩

theorem aopsQ_sound (hΓ : SoundE P Γ) {ops : Array Oper} {H : AHeap} {K : AFrame → Prop} {φ : Nat → Place} {wS : World} (hH : HRep φ B H wS) {Q : Act → Prop}
    (hQ : ∀ F' a', FRep φ H.n F' a'.tmps → a'.tmps.size = N → a'.defers = [] → K F' → Q a') :
    ∀ (l : List Oper) {F : AFrame} {a : Act}, FRep φ H.n F a.tmps → a.tmps.size = N → a.defers = [] → aopsQ P Γ N H (l.map (prepOp ops)) F K → wpQuiet P ops (Below wS.heap.size wS) Q l a
  | [], F, a, hF, hs, hd, h => hQ F a hF hs hd h
  | o :: r, F, a, hF, hs, hdf, h => by
    simp only [List.map_cons, aopsQ] at h
    obtain ⟨hd, h⟩ := h
    have hd' : dstOk N o.dst := hd
    unfold wpQuiet
    rcases guard_of hF h with ⟨hw, h⟩ | ⟨hw, h⟩
    · rw [if_pos hw]
      obtain ⟨v, u, h1, h2, h3⟩ := stepQ_sound hΓ hH hF h
      exact ⟨u, h3, aopsQ_sound hΓ hH hQ r (hF.put hs hd' h2) (put_size.trans hs) (put_defers.trans hdf) h1⟩
    · rw [if_neg (by simp [hw])]
      exact aopsQ_sound hΓ hH hQ r (hF.put hs hd' (v := .tup []) ⟨[], rfl, trivial⟩) (put_size.trans hs) (put_defers.trans hdf) h

theorem cmp_inv {ch : Nat → Bool} {c : Code} {s : SCode} (h : cmp P ch c = some s) : match s with
    | .skip => c = .skip
    | .reg l => ∃ id ops, c = .region id ops false ∧ l = ops.toList.map (prepOp ops)
    | .regQ l => ∃ id ops, c = .region id ops true ∧ l = ops.toList.map (prepOp ops) ∧ P.follows .mixedOrders = true ∧ Region.lexB .any ops = true
    | .regT hd tl => ∃ id ops n, c = .region id ops true ∧ hd = (ops.toList.take n).map (prepOp ops) ∧ tl = (ops.toList.drop n).map (prepOp ops) ∧ P.follows .mixedOrders = true ∧ Region.lexTailB .any ops n = true
    | .regF hd fl ws ks lt l => ∃ id ops ms p, c = .region id ops true ∧ hd = (p.L0.filterMap fun i => (ops[i]?).map (prepOp ops)) ∧ fl = floats ops p.wl p.L ∧ ws = (p.wl.w.filterMap fun i => (ops[i]?).map (·.op)) ∧ lt = ltOf ops p.wl ∧ l = (p.L.filterMap fun i => (ops[i]?).map (prepOp ops)) ∧ P.follows .mixedOrders = true ∧ planOk ops ms p = true
    | .seq x y => ∃ a b, c = .seq a b ∧ cmp P ch a = some x ∧ cmp P ch b = some y
    | .cond d x y => ∃ a b, c = .cond d a b ∧ cmp P ch a = some x ∧ cmp P ch b = some y
    | .block id x => ∃ a, c = .block id a ∧ cmp P ch a = some x
    | .loop x => ∃ a, c = .loop a ∧ cmp P ch a = some x
    | .exit id => c = .exit id
    | .ret => c = .ret := by
  cases c with
  | skip => simp [cmp] at h; subst h; rfl
  | region id ops d =>
    cases d with
    | false => simp [cmp] at h; subst h; exact ⟨id, ops, rfl, rfl⟩
    | true =>
      simp only [cmp] at h
      split at h
      · rename_i x hx
        cases h
        split at hx
        · cases hx
        unfold drawn at hx
        split at hx
        · split at hx
          · rename_i hc; simp at hx; subst hx; exact ⟨id, ops, rfl, rfl, hc.1, hc.2⟩
          · cases hx
        · split at hx
          · rename_i hc; simp only [Option.some.injEq] at hx; subst hx; exact ⟨id, ops, _, rfl, rfl, rfl, hc.1, hc.2⟩
          · cases hx
      · unfold planned at h
        split at h
        · rename_i hc; simp only [Option.some.injEq] at h; subst h; exact ⟨id, ops, _, _, rfl, rfl, rfl, rfl, rfl, rfl, hc.1, hc.2⟩
        · cases h
  | seq a b =>
    simp only [cmp] at h
    split at h
    · rename_i x y e1 e2; simp at h; subst h; exact ⟨a, b, rfl, e1, e2⟩
    · cases h
  | cond d a b =>
    simp only [cmp] at h
    split at h
    · rename_i x y e1 e2; simp at h; subst h; exact ⟨a, b, rfl, e1, e2⟩
    · cases h
  | block id a =>
    simp only [cmp, Option.map_eq_some_iff] at h
    obtain ⟨x, h1, rfl⟩ := h
    exact ⟨a, rfl, h1⟩
  | loop a =>
    simp only [cmp, Option.map_eq_some_iff] at h
    obtain ⟨x, h1, rfl⟩ := h
    exact ⟨a, rfl, h1⟩
  | exit id => simp [cmp] at h; subst h; rfl
  | ret => simp [cmp] at h; subst h; rfl
  | _ => cases h

theorem AWp.mono {c : Code} {F : AFrame} {H : AHeap} {Q Q' : Exit → AFrame → AHeap → Prop} (h : AWp P N n0 c F H Q) (hq : ∀ e F' H', Q e F' H' → Q' e F' H') : AWp P N n0 c F H Q' :=
  fun φ0 B w0 φ a w hS => wp_mono (h φ0 B w0 φ a w hS) fun _ _ _ ⟨φ', F', H', h1, h2⟩ => ⟨φ', F', H', h1, hq _ _ _ h2⟩

theorem awp_seq {x y : Code} {F : AFrame} {H : AHeap} {Q : Exit → AFrame → AHeap → Prop} {K : AFrame → AHeap → Prop} (h : AWp P N n0 x F H (thenQ Q K)) (hk : ∀ F' H', K F' H' → AWp P N n0 y F' H' Q) : AWp P N n0 (.seq x y) F H Q := by
  intro φ0 B w0 φ a w hS
  refine wp_seq (wp_mono (h φ0 B w0 φ a w hS) ?_)
  rintro e a' w' ⟨φ', F', H', h1, h2⟩
  cases e with
  | normal => exact hk F' H' h2 φ0 B w0 φ' a' w' h1
  | _ => exact ⟨φ', F', H', h1, h2⟩

theorem awp_block {id : Nat} {x : Code} {F : AFrame} {H : AHeap} {Q : Exit → AFrame → AHeap → Prop} (h : AWp P N n0 x F H (blockQ id Q)) : AWp P N n0 (.block id x) F H Q := by
  intro φ0 B w0 φ a w hS
  refine wp_block (wp_mono (h φ0 B w0 φ a w hS) ?_)
  rintro e a' w' ⟨φ', F', H', h1, h2⟩
  cases e with
  | exit i =>
    simp only [Exit.inBlock, blockQ] at h2 ⊢
    split at h2
    · rename_i hi; rw [if_pos hi]; exact ⟨φ', F', H', h1, h2⟩
    · rename_i hi; rw [if_neg hi]; exact ⟨φ', F', H', h1, h2⟩
  | _ => exact ⟨φ', F', H', h1, h2⟩

/-- SOUNDNESS of code -/
theorem avc_sound (hΓ : SoundE P Γ) : ∀ (ac : ACode) {ch : Nat → Bool} {c : Code} {F : AFrame} {H : AHeap} {Q : Exit → AFrame → AHeap → Prop}, cmp P ch c = some ac.strip → avc P Γ N n0 ac F H Q → AWp P N n0 c F H Q := by
  intro ac
  induction ac with
  | skip =>
    intro ch c F H Q hc h φ0 B w0 φ a w hS
    have e : c = .skip := cmp_inv hc
    subst e
    exact wp_skip ⟨φ, F, H, hS, h⟩
  | reg l keep =>
    intro ch c F H Q hc h φ0 B w0 φ a w hS
    obtain ⟨id, ops, rfl, e⟩ := cmp_inv hc
    simp only [avc, e] at h
    exact wp_region_list (aops_sound hΓ (K := fun F' H' => Q .normal (F'.keep keep) H') (fun φ' F' H' a' w' hS' hK => ⟨φ', _, H', hS'.keepSlots keep, hK⟩) ops.toList hS h)
  | regQ l keep =>
    intro ch c F H Q hc h φ0 B w0 φ a w hS
    obtain ⟨id, ops, rfl, e, hm, hB⟩ := cmp_inv hc
    simp only [avc, e] at h
    have hd : Below w.heap.size w { w with drawn := w.drawn + 1 } := ⟨rfl, rfl, rfl, Nat.le_refl _, fun _ _ => rfl⟩
    have hH : HRep φ B H { w with drawn := w.drawn + 1 } := hS.heap.keep hd
    refine wp_region_quiet (C := Below w.heap.size { w with drawn := w.drawn + 1 }) hm hB (Below.refl _ _) ?_
    refine aopsQ_sound (wS := { w with drawn := w.drawn + 1 }) hΓ hH (fun F' a' hF' hs' hd' hK w' hw' => ?_) ops.toList hS.fr hS.size hS.nod h
    have hst : St N φ0 n0 B w0 φ F' H a' w' := ⟨hH.keep hw', hF', hs', hd', (hS.below.trans (.of_below hS.heap.size hS.heap.tlt hd)).trans (.of_below hH.size hH.tlt hw'), hS.n, hS.agree⟩
    exact ⟨φ, _, H, hst.keepSlots keep, hK⟩
  | regT hd tl keep =>
    intro ch c F H Q hc h φ0 B w0 φ a w hS
    obtain ⟨id, ops, n, rfl, e1, e2, hm, hB⟩ := cmp_inv hc
    simp only [avc, e1, e2] at h
    have hd : Below w.heap.size w { w with drawn := w.drawn + 1 } := ⟨rfl, rfl, rfl, Nat.le_refl _, fun _ _ => rfl⟩
    have hH : HRep φ B H { w with drawn := w.drawn + 1 } := hS.heap.keep hd
    refine wp_region_head n (C := Below w.heap.size { w with drawn := w.drawn + 1 }) hm hB (Below.refl _ _) ?_
    refine aopsQ_sound (wS := { w with drawn := w.drawn + 1 }) hΓ hH (fun F' a' hF' hs' hd' hK w' hw' => ?_) (ops.toList.take n) hS.fr hS.size hS.nod h
    have hst : St N φ0 n0 B w0 φ F' H a' w' := ⟨hH.keep hw', hF', hs', hd', (hS.below.trans (.of_below hS.heap.size hS.heap.tlt hd)).trans (.of_below hH.size hH.tlt hw'), hS.n, hS.agree⟩
    exact aops_sound hΓ (K := fun F' H' => Q .normal (F'.keep keep) H') (fun φ' F' H' a' w' hS' hK => ⟨φ', _, H', hS'.keepSlots keep, hK⟩) (ops.toList.drop n) hst hK
  | regF hd fl ws ks lt l keep =>
    intro ch c F H Q hc h φ0 B w0 φ a w hS
    obtain ⟨id, ops, ms, p, rfl, e1, e2, e3, e5, e4, hm, hB⟩ := cmp_inv hc
    simp only [avc, e1, e2, e3, e4, e5] at h
    simp only [planOk, Bool.and_eq_true, decide_eq_true_eq] at hB
    exact wp_region_order (K := fun F' H' => Q .normal (F'.keep keep) H') hΓ hm (orderOk_spec hB.1.1) hB.2 ks hB.1.2 hS h (fun φ' F' H' a' w' hS' hK => ⟨φ', _, H', hS'.keepSlots keep, hK⟩)
  | cut keep x ih =>
    intro ch c F H Q hc h φ0 B w0 φ a w hS
    exact ih hc h φ0 B w0 φ a w (hS.keepSlots keep)
  | seq x y ihx ihy =>
    intro ch c F H Q hc h
    obtain ⟨a, b, rfl, h1, h2⟩ := cmp_inv hc
    exact awp_seq (ihx h1 h) fun F' H' hK => ihy h2 hK
  | cond d x y ihx ihy =>
    intro ch c F H Q hc h φ0 B w0 φ a w hS
    obtain ⟨p, q, rfl, h1, h2⟩ := cmp_inv hc
    obtain ⟨v, hv, h⟩ := onv_iff.1 h
    have he := eval_of hS.fr hv
    split at h
    · rename_i t
      have hc' : a.eval d = .bool t := he
      cases t with
      | true => exact wp_cond_true hc' (ihx h1 (h.1 rfl) φ0 B w0 φ a w hS)
      | false => exact wp_cond_false hc' (ihy h2 (h.2 rfl) φ0 B w0 φ a w hS)
    · exact h.elim
  | block id x ih =>
    intro ch c F H Q hc h
    obtain ⟨a, rfl, h1⟩ := cmp_inv hc
    exact awp_block (ih h1 h)
  | loop x ih =>
    intro ch c F H Q hc h
    obtain ⟨a, rfl, h1⟩ := cmp_inv hc
    exact h.run ch a h1
  | exit id =>
    intro ch c F H Q hc h φ0 B w0 φ a w hS
    have e : c = .exit id := cmp_inv hc
    subst e
    exact wp_exit ⟨φ, F, H, hS, h⟩
  | ret =>
    intro ch c F H Q hc h φ0 B w0 φ a w hS
    have e : c = .ret := cmp_inv hc
    subst e
    exact wp_ret ⟨φ, F, H, hS, h⟩

end
end Go.Proofs.YtafenginfojcmaaGreatDoor
