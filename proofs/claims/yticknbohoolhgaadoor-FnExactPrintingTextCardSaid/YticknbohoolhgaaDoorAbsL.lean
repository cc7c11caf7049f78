/- The abstract machine, part L: code. Regions, branches, loops; what a function's body does abstractly, and that the model does it. No program is named here. -/
import Derived.Test.YticknbohoolhgaaDoorAbsK
import Derived.Test.YticknbohoolhgaaDoorAbsT
namespace Go.Proofs.YticknbohoolhgaaDoor
open Go.RowKit

/-- an operation: the slot that it writes, what it does, the slot (and its value) under which it runs -/
structure POp where
  dst : Option Tmp
  op : Op
  guard : Option (Option Tmp × Bool)

def prepOp (ops : Array Oper) (o : Oper) : POp := ⟨o.dst, o.op, o.guard.map fun g => ((ops[g.1]?).bind (·.dst), g.2)⟩

inductive ACode where
  | skip
  | reg (ops : List POp) (keep : List Tmp)
  | regQ (ops : List POp) (keep : List Tmp)
  | regT (hd tl : List POp) (keep : List Tmp)
  | seq (a b : ACode)
  | cond (c : Operand) (a b : ACode)
  | block (id : Nat) (a : ACode)
  | loop (a : ACode)
  | exit (id : Nat)
  | ret

/-- the same without the lists of slots that are kept -/
inductive SCode where
  | skip
  | reg (ops : List POp)
  | regQ (ops : List POp)
  | regT (hd tl : List POp)
  | seq (a b : SCode)
  | cond (c : Operand) (a b : SCode)
  | block (id : Nat) (a : SCode)
  | loop (a : SCode)
  | exit (id : Nat)
  | ret

def ACode.strip : ACode → SCode
  | .skip => .skip
  | .reg ops _ => .reg ops
  | .regQ ops _ => .regQ ops
  | .regT hd tl _ => .regT hd tl
  | .seq a b => .seq a.strip b.strip
  | .cond c a b => .cond c a.strip b.strip
  | .block id a => .block id a.strip
  | .loop a => .loop a.strip
  | .exit id => .exit id
  | .ret => .ret

/-- an operation that makes or writes memory -/
def isEff : Op → Bool
  | .alloc _ => true
  | .box _ _ => true
  | .store _ _ _ => true
  | .buildSlice _ _ _ => true
  | .makeSlice _ _ _ => true
  | .call ⟨.builtin .append, _, _⟩ => true
  | _ => false
/-- what the model's code is as abstract code -/
def cmp (P : Program) : Code → Option SCode
  | .skip => some .skip
  | .region _ ops false => some (.reg (ops.toList.map (prepOp ops)))
  | .region _ ops true => match ops.toList.findIdx? fun o => isEff o.op with
    | none => if P.follows .mixedOrders = true ∧ Region.lexB .any ops = true then some (.regQ (ops.toList.map (prepOp ops))) else none
    | some n => if P.follows .mixedOrders = true ∧ Region.lexTailB .any ops n = true then some (.regT ((ops.toList.take n).map (prepOp ops)) ((ops.toList.drop n).map (prepOp ops))) else none
  | .seq a b => match cmp P a, cmp P b with
    | some x, some y => some (.seq x y)
    | _, _ => none
  | .cond c a b => match cmp P a, cmp P b with
    | some x, some y => some (.cond c x y)
    | _, _ => none
  | .block id a => (cmp P a).map (.block id)
  | .loop a => (cmp P a).map .loop
  | .exit id => some (.exit id)
  | .ret => some .ret
  | _ => none

def AFrame.put (F : AFrame) (d : Option Tmp) (v : AV) : AFrame := match d with
  | some t => (t, v) :: F
  | none => F

def AFrame.keep (F : AFrame) : List Tmp → AFrame
  | [] => []
  | t :: r => match F.get t with
    | some v => (t, v) :: AFrame.keep F r
    | none => AFrame.keep F r

/-- contracts at hand -/
abbrev Con := List AV → AHeap → (AV → AHeap → Prop) → Prop
abbrev Env := List (FuncId × Con)
def Env.get : Env → FuncId → Con
  | [], _ => fun _ _ _ => False
  | (f, c) :: r, g => if f = g then c else Env.get r g
def Sound (P : Program) (g : FuncId) (c : Con) : Prop := ∀ args H K, c args H K → ACalls P g args H K
def SoundE (P : Program) (Γ : Env) : Prop := ∀ g args H K, Γ.get g args H K → ACalls P g args H K
theorem soundE_nil {P : Program} : SoundE P [] := fun _ _ _ _ h => h.elim
theorem soundE_cons {P : Program} {Γ : Env} {f : FuncId} {c : Con} (h : Sound P f c) (hr : SoundE P Γ) : SoundE P ((f, c) :: Γ) := fun g args H K hc => by
  unfold Env.get at hc
  split at hc
  · rename_i e; subst e; exact h args H K hc
  · exact hr g args H K hc

/-- a value that names no block -/
def plainV : AV → Bool
  | .c x => plainC x
  | .agg xs => xs.all plainC
  | .tup xs => xs.all fun
    | .c x => plainC x
    | .agg ys => ys.all plainC
    | .tup _ => false

/-- one operation; calls by the contracts at hand -/
def astep (P : Program) (Γ : Env) (H : AHeap) (F : AFrame) (op : Op) (K : AV → AHeap → Prop) : Prop := match op with
  | .call ⟨.value f, args, _⟩ => onv (opnd F f) fun
    | .c (.fn g caps) => onv (opnds F args.toList) fun vs => Γ.get g (vs ++ caps.map fun b => .c (.ptr b 0 0)) H K
    | _ => False
  | op => apure P H F op (fun v => K v H) ∨ aeff P H F op K
/-- one operation in a region that draws its order -/
def astepQ (P : Program) (Γ : Env) (H : AHeap) (F : AFrame) (op : Op) (K : AV → Prop) : Prop := match op with
  | .call ⟨.value f, args, _⟩ => onv (opnd F f) fun
    | .c (.fn g caps) => onv (opnds F args.toList) fun vs => ∃ r, plainV r = true ∧ Γ.get g (vs ++ caps.map fun b => .c (.ptr b 0 0)) H.toRo (fun r' H' => r' = r ∧ H' = H.toRo) ∧ K r
    | _ => False
  | op => apure P H F op K

def aguard (F : AFrame) (g : Option (Option Tmp × Bool)) (X Y : Prop) : Prop := match g with
  | none => X
  | some (some t, want) => onv (F.get t) fun
    | .c (.bool b) => (b = want → X) ∧ (b ≠ want → Y)
    | .tup _ => Y
    | _ => False
  | some (none, _) => False

def dstOk (N : Nat) : Option Tmp → Prop
  | some t => t < N
  | none => True

def aops (P : Program) (Γ : Env) (N : Nat) : List POp → AFrame → AHeap → (AFrame → AHeap → Prop) → Prop
  | [], F, H, K => K F H
  | o :: r, F, H, K => dstOk N o.dst ∧ aguard F o.guard (astep P Γ H F o.op fun v H' => aops P Γ N r (F.put o.dst v) H' K) (aops P Γ N r (F.put o.dst (.tup [])) H K)
def aopsQ (P : Program) (Γ : Env) (N : Nat) (H : AHeap) : List POp → AFrame → (AFrame → Prop) → Prop
  | [], F, K => K F
  | o :: r, F, K => dstOk N o.dst ∧ aguard F o.guard (astepQ P Γ H F o.op fun v => aopsQ P Γ N H r (F.put o.dst v) K) (aopsQ P Γ N H r (F.put o.dst (.tup [])) K)

structure St (N : Nat) (φ0 : Nat → Place) (n0 : Nat) (B : Nat) (w0 : World) (φ : Nat → Place) (F : AFrame) (H : AHeap) (a : Act) (w : World) : Prop where
  heap : HRep φ B H w
  fr : FRep φ H.n F a.tmps
  size : a.tmps.size = N
  nod : a.defers = []
  below : Below B w0 w
  n : n0 ≤ H.n
  agree : ∀ b, b < n0 → φ b = φ0 b

def AWp (P : Program) (N n0 : Nat) (c : Code) (F : AFrame) (H : AHeap) (Q : Exit → AFrame → AHeap → Prop) : Prop :=
  ∀ φ0 B w0 φ a w, St N φ0 n0 B w0 φ F H a w → c.wp P (fun e a' w' => ∃ φ' F' H', St N φ0 n0 B w0 φ' F' H' a' w' ∧ Q e F' H') a w

/-- a loop, met abstractly -/
structure ALoop (P : Program) (N n0 : Nat) (a : ACode) (F : AFrame) (H : AHeap) (Q : Exit → AFrame → AHeap → Prop) : Prop where
  run : ∀ c, cmp P c = some a.strip → AWp P N n0 (.loop c) F H Q

def thenQ (Q : Exit → AFrame → AHeap → Prop) (K : AFrame → AHeap → Prop) : Exit → AFrame → AHeap → Prop
  | .normal, F, H => K F H
  | e, F, H => Q e F H
def blockQ (id : Nat) (Q : Exit → AFrame → AHeap → Prop) : Exit → AFrame → AHeap → Prop
  | .exit i, F, H => if i = id then Q .normal F H else Q (.exit i) F H
  | e, F, H => Q e F H

def avc (P : Program) (Γ : Env) (N n0 : Nat) : ACode → AFrame → AHeap → (Exit → AFrame → AHeap → Prop) → Prop
  | .skip, F, H, Q => Q .normal F H
  | .reg ops keep, F, H, Q => aops P Γ N ops F H fun F' H' => Q .normal (F'.keep keep) H'
  | .regQ ops keep, F, H, Q => aopsQ P Γ N H ops F fun F' => Q .normal (F'.keep keep) H
  | .regT hd tl keep, F, H, Q => aopsQ P Γ N H hd F fun F' => aops P Γ N tl F' H fun F'' H'' => Q .normal (F''.keep keep) H''
  | .seq a b, F, H, Q => avc P Γ N n0 a F H (thenQ Q fun F' H' => avc P Γ N n0 b F' H' Q)
  | .cond c a b, F, H, Q => onv (opnd F c) fun
    | .c (.bool t) => (t = true → avc P Γ N n0 a F H Q) ∧ (t = false → avc P Γ N n0 b F H Q)
    | _ => False
  | .block id a, F, H, Q => avc P Γ N n0 a F H (blockQ id Q)
  | .loop a, F, H, Q => ALoop P N n0 a F H Q
  | .exit id, F, H, Q => Q (.exit id) F H
  | .ret, F, H, Q => Q .ret F H

section
variable {P : Program} {Γ : Env} {N n0 : Nat} {φ0 : Nat → Place} {B : Nat} {w0 : World}

theorem FRep.put {φ : Nat → Place} {n : Nat} {F : AFrame} {a : Act} (h : FRep φ n F a.tmps) (hs : a.tmps.size = N) {d : Option Tmp} (hd : dstOk N d) {v : AV} {u : Value} (hv : RepV φ n v u) : FRep φ n (F.put d v) (a.put d u).tmps := by
  cases d with
  | none => exact h
  | some d =>
    have hd' : d < N := hd
    intro t x hx
    simp only [AFrame.put, AFrame.get] at hx
    simp only [Act.put]
    split at hx
    · rename_i e; subst e
      simp at hx; subst hx
      exact ⟨u, Array.getElem?_setIfInBounds_self_of_lt (by rw [hs]; exact hd'), hv⟩
    · rename_i e
      obtain ⟨u', h1, h2⟩ := h t x hx
      exact ⟨u', by rw [Array.getElem?_setIfInBounds_ne e]; exact h1, h2⟩

theorem put_size {a : Act} {d : Option Tmp} {u : Value} : (a.put d u).tmps.size = a.tmps.size := by
  cases d <;> simp [Act.put]
theorem put_defers {a : Act} {d : Option Tmp} {u : Value} : (a.put d u).defers = a.defers := by
  cases d <;> simp [Act.put]

theorem FRep.mono {φ φ' : Nat → Place} {n n' : Nat} (ha : ∀ b, b < n → φ' b = φ b) (hn : n ≤ n') {F : AFrame} {tmps : Array Value} (h : FRep φ n F tmps) : FRep φ' n' F tmps := fun t v hv => by
  obtain ⟨u, h1, h2⟩ := h t v hv
  exact ⟨u, h1, h2.mono ha hn⟩

theorem keep_get {F : AFrame} : ∀ {l : List Tmp} {t : Tmp} {v : AV}, (F.keep l).get t = some v → F.get t = some v
  | [], _, _, h => by simp [AFrame.keep, AFrame.get] at h
  | s :: r, t, v, h => by
    unfold AFrame.keep at h
    split at h
    · rename_i u hu
      unfold AFrame.get at h
      split at h
      · rename_i e; subst e; rw [hu]; exact h
      · exact keep_get h
    · exact keep_get h

theorem St.keepSlots {φ : Nat → Place} {F : AFrame} {H : AHeap} {a : Act} {w : World} (h : St N φ0 n0 B w0 φ F H a w) (l : List Tmp) : St N φ0 n0 B w0 φ (F.keep l) H a w :=
  ⟨h.heap, fun t v hv => h.fr t v (keep_get hv), h.size, h.nod, h.below, h.n, h.agree⟩

/-- an operation's guard, in the model -/
theorem guard_of {φ : Nat → Place} {n : Nat} {F : AFrame} {a : Act} (hF : FRep φ n F a.tmps) {ops : Array Oper} {o : Oper} {X Y : Prop} (h : aguard F (prepOp ops o).guard X Y) :
    (Region.wanted o (yielded ops a.tmps) = true ∧ X) ∨ (Region.wanted o (yielded ops a.tmps) = false ∧ Y) := by
  unfold Region.wanted
  cases hg : o.guard with
  | none => simp [prepOp, hg, aguard] at h; exact .inl ⟨rfl, h⟩
  | some g =>
    obtain ⟨j, want⟩ := g
    simp only [prepOp, hg, Option.map_some, aguard] at h
    split at h
    · rename_i heq; cases heq
    · rename_i t want' heq
      simp only [Option.some.injEq, Prod.mk.injEq] at heq
      obtain ⟨h1, rfl⟩ := heq
      obtain ⟨v, hv, h⟩ := onv_iff.1 h
      split at h
      · rename_i b
        obtain ⟨u, h2, h3⟩ := hF t _ hv
        have hu : u = .bool b := h3
        subst hu
        have hy : yielded ops a.tmps j = some b := by simp [yielded, h1, h2]
        show ((yielded ops a.tmps j == some want) = true ∧ X) ∨ ((yielded ops a.tmps j == some want) = false ∧ Y)
        rw [hy]
        by_cases hb : b = want
        · exact .inl ⟨by simp [hb], h.1 hb⟩
        · exact .inr ⟨by simp [hb], h.2 hb⟩
      · obtain ⟨u, h2, h3⟩ := hF t _ hv
        obtain ⟨us, hu, _⟩ := h3
        subst hu
        have hy : yielded ops a.tmps j = none := by simp [yielded, h1, h2]
        show ((yielded ops a.tmps j == some want) = true ∧ X) ∨ ((yielded ops a.tmps j == some want) = false ∧ Y)
        rw [hy]
        exact .inr ⟨by simp, h⟩
      · exact h.elim
    · exact h.elim

theorem step_eff {op : Op} {H : AHeap} {F : AFrame} {K : AV → AHeap → Prop} (hΓ : SoundE P Γ) (h : astep P Γ H F op K) : apure P H F op (fun v => K v H) ∨ aeff P H F op K := by
  unfold astep at h
  split at h
  · rename_i f args ts
    right
    simp only [aeff]
    obtain ⟨fv, hf, h⟩ := onv_iff.1 h
    refine onv_iff.2 ⟨fv, hf, ?_⟩
    split at h
    · rename_i g caps
      obtain ⟨vs, hv, h⟩ := onv_iff.1 h
      exact onv_iff.2 ⟨vs, hv, hΓ _ _ _ _ h⟩
    · exact h.elim
  · exact h

theorem aops_sound (hΓ : SoundE P Γ) {ops : Array Oper} {Q : Exit → Act → World → Prop} {K : AFrame → AHeap → Prop} (hQ : ∀ φ' F' H' a' w', St N φ0 n0 B w0 φ' F' H' a' w' → K F' H' → Q .normal a' w') :
    ∀ (l : List Oper) {φ : Nat → Place} {F : AFrame} {H : AHeap} {a : Act} {w : World}, St N φ0 n0 B w0 φ F H a w → aops P Γ N (l.map (prepOp ops)) F H K → wpList P ops Q l a w
  | [], φ, F, H, a, w, hS, h => hQ φ F H a w hS h
  | o :: r, φ, F, H, a, w, hS, h => by
    simp only [List.map_cons, aops] at h
    obtain ⟨hd, h⟩ := h
    have hd' : dstOk N o.dst := hd
    unfold wpList
    rcases guard_of hS.fr h with ⟨hw, h⟩ | ⟨hw, h⟩
    · rw [if_pos hw]
      left
      rcases step_eff hΓ h with h | h
      · obtain ⟨v, u, h1, h2, h3⟩ := apure_sound (o := o) rfl hS.heap hS.fr h
        unfold Oper.wp
        rw [h3 w (Below.refl _ _), Oper.upon_value]
        exact aops_sound hΓ hQ r ⟨hS.heap, hS.fr.put hS.size hd' h2, put_size.trans hS.size, put_defers.trans hS.nod, hS.below, hS.n, hS.agree⟩ h1
      · refine aeff_sound (o := o) rfl hS.heap hS.fr h _ _ fun v u φ' H' w' h1 h2 h3 h4 h5 h6 => ?_
        exact aops_sound hΓ hQ r ⟨h3, (hS.fr.mono h6 h5).put hS.size hd' h2, put_size.trans hS.size, put_defers.trans hS.nod, hS.below.trans h4, Nat.le_trans hS.n h5,
          fun b hb => (h6 b (Nat.lt_of_lt_of_le hb hS.n)).trans (hS.agree b hb)⟩ h1
    · rw [if_neg (by simp [hw])]
      exact aops_sound hΓ hQ r ⟨hS.heap, hS.fr.put hS.size hd' (v := .tup []) ⟨[], rfl, trivial⟩, put_size.trans hS.size, put_defers.trans hS.nod, hS.below, hS.n, hS.agree⟩ h

/-! ### regions that draw their order -/
theorem plainC_unique {φ φ' : Nat → Place} {n n' : Nat} {x : AC} {u u' : Value} (hp : plainC x = true) (h : RepC φ n x u) (h' : RepC φ' n' x u') : u = u' := by
  cases x <;> first | (simp [plainC] at hp; done) | exact (show u = _ from h).trans (show u' = _ from h').symm
theorem plainL_unique {φ φ' : Nat → Place} {n n' : Nat} : ∀ {xs : List AC} {us us' : List Value}, xs.all plainC = true → RepL φ n xs us → RepL φ' n' xs us' → us = us'
  | [], [], [], _, _, _ => rfl
  | x :: xs, u :: us, u' :: us', hp, h, h' => by
    simp only [List.all_cons, Bool.and_eq_true] at hp
    rw [plainC_unique hp.1 h.1 h'.1, plainL_unique hp.2 h.2 h'.2]
  | [], _ :: _, _, _, h, _ => h.elim
  | [], [], _ :: _, _, _, h => h.elim
  | _ :: _, [], _, _, h, _ => h.elim
  | _ :: _, _ :: _, [], _, _, h => h.elim
theorem plain1_unique {φ φ' : Nat → Place} {n n' : Nat} {x : AV} {u u' : Value} (hp : (match x with | .c x => plainC x | .agg ys => ys.all plainC | .tup _ => false) = true) (h : Rep1 φ n x u) (h' : Rep1 φ' n' x u') : u = u' := by
  cases x with
  | c x => exact plainC_unique hp h h'
  | agg ys =>
    obtain ⟨vs, h1, h2⟩ := h
    obtain ⟨vs', h3, h4⟩ := h'
    rw [h1, h3, plainL_unique hp h2 h4]
  | tup _ => exact h.elim
theorem plainT_unique {φ φ' : Nat → Place} {n n' : Nat} : ∀ {xs : List AV} {us us' : List Value}, (xs.all fun | .c x => plainC x | .agg ys => ys.all plainC | .tup _ => false) = true → RepT φ n xs us → RepT φ' n' xs us' → us = us'
  | [], [], [], _, _, _ => rfl
  | x :: xs, u :: us, u' :: us', hp, h, h' => by
    simp only [List.all_cons, Bool.and_eq_true] at hp
    rw [plain1_unique hp.1 h.1 h'.1, plainT_unique hp.2 h.2 h'.2]
  | [], _ :: _, _, _, h, _ => h.elim
  | [], [], _ :: _, _, _, h => h.elim
  | _ :: _, [], _, _, h, _ => h.elim
  | _ :: _, _ :: _, [], _, _, h => h.elim
theorem plainV_unique {φ φ' : Nat → Place} {n n' : Nat} {x : AV} {u u' : Value} (hp : plainV x = true) (h : RepV φ n x u) (h' : RepV φ' n' x u') : u = u' := by
  cases x with
  | c x => exact plainC_unique hp h h'
  | agg ys => exact plain1_unique (x := .agg ys) hp h h'
  | tup xs =>
    obtain ⟨vs, h1, h2⟩ := h
    obtain ⟨vs', h3, h4⟩ := h'
    rw [h1, h3, plainT_unique hp h2 h4]
theorem plainC_mono {φ φ' : Nat → Place} {n n' : Nat} {x : AC} {u : Value} (hp : plainC x = true) (h : RepC φ n x u) : RepC φ' n' x u := by
  cases x <;> first | (simp [plainC] at hp; done) | exact h
theorem plainL_mono {φ φ' : Nat → Place} {n n' : Nat} : ∀ {xs : List AC} {us : List Value}, xs.all plainC = true → RepL φ n xs us → RepL φ' n' xs us
  | [], [], _, _ => trivial
  | x :: xs, u :: us, hp, h => by
    simp only [List.all_cons, Bool.and_eq_true] at hp
    exact ⟨plainC_mono hp.1 h.1, plainL_mono hp.2 h.2⟩
  | [], _ :: _, _, h => h.elim
  | _ :: _, [], _, h => h.elim
theorem plain1_mono {φ φ' : Nat → Place} {n n' : Nat} {x : AV} {u : Value} (hp : (match x with | .c x => plainC x | .agg ys => ys.all plainC | .tup _ => false) = true) (h : Rep1 φ n x u) : Rep1 φ' n' x u := by
  cases x with
  | c x => exact plainC_mono hp h
  | agg ys => obtain ⟨vs, h1, h2⟩ := h; exact ⟨vs, h1, plainL_mono hp h2⟩
  | tup _ => exact h.elim
theorem plainT_mono {φ φ' : Nat → Place} {n n' : Nat} : ∀ {xs : List AV} {us : List Value}, (xs.all fun | .c x => plainC x | .agg ys => ys.all plainC | .tup _ => false) = true → RepT φ n xs us → RepT φ' n' xs us
  | [], [], _, _ => trivial
  | x :: xs, u :: us, hp, h => by
    simp only [List.all_cons, Bool.and_eq_true] at hp
    exact ⟨plain1_mono hp.1 h.1, plainT_mono hp.2 h.2⟩
  | [], _ :: _, _, h => h.elim
  | _ :: _, [], _, h => h.elim
theorem plainV_mono {φ φ' : Nat → Place} {n n' : Nat} {x : AV} {u : Value} (hp : plainV x = true) (h : RepV φ n x u) : RepV φ' n' x u := by
  cases x with
  | c x => exact plainC_mono hp h
  | agg ys => exact plain1_mono (x := .agg ys) hp h
  | tup xs => obtain ⟨vs, h1, h2⟩ := h; exact ⟨vs, h1, plainT_mono hp h2⟩

/-- the arguments of a call with plain and other values, over the heap that may only be read -/
theorem stepQ_sound (hΓ : SoundE P Γ) {o : Oper} {H : AHeap} {F : AFrame} {K : AV → Prop} {φ : Nat → Place} {a : Act} {wS : World} (hH : HRep φ B H wS) (hF : FRep φ H.n F a.tmps) (h : astepQ P Γ H F o.op K) :
    ∃ v u, K v ∧ RepV φ H.n v u ∧ ∀ w, Below wS.heap.size wS w → o.quietAt P a (Below wS.heap.size wS) w u := by
  unfold astepQ at h
  split at h
  · rename_i f args ts heq
    obtain ⟨fv, hf, h⟩ := onv_iff.1 h
    have he := eval_of hF hf
    split at h
    · rename_i g caps
      obtain ⟨hcl, hx⟩ := (show RepC φ H.n (.fn g caps) _ from he)
      obtain ⟨vs, hvs, r, hp, hc, hK⟩ := onv_iff.1 h
      have hargs := evals_of hF hvs
      obtain ⟨hent, hcall⟩ := hΓ _ _ _ _ hc
      have hall := rept_append hargs (rept_caps (φ := φ) hcl)
      have hrun : ∀ w, (execOp a.eval o).run P w = .ok (.enter g (args.toList.map a.eval ++ caps.map fun b => ptrOf (φ b)).toArray) w := fun w => by
        have e1 : (#[] ++ args.map a.eval) ++ (caps.map fun b => ptrOf (φ b)).toArray = (args.toList.map a.eval ++ caps.map fun b => ptrOf (φ b)).toArray := by
          cases args; simp
        simp only [execOp, heq, resolve, hx, Deferred.ofValue, Sem.run_bind, Sem.run_pure, Result.andThen_ok, invoke, e1]
        exact hent _ _
      have key : ∀ w, Below wS.heap.size wS w → Calls P g (args.toList.map a.eval ++ caps.map fun b => ptrOf (φ b)).toArray w fun e w'' => ∃ u, e = .returned u ∧ RepV φ H.n r u ∧ Below wS.heap.size wS w'' := fun w hw => by
        have hH' := (hH.keep hw).toRo
        refine (hcall φ w.heap.size w _ hH' hall).mono ?_
        rintro e w' ⟨r', u, φ', H', rfl, h1, h2, h3, h4, h5, rfl, rfl⟩
        exact ⟨u, rfl, plainV_mono hp h1, hw.trans (h3.mono hw.size)⟩
      obtain ⟨e0, w1, fr0, ⟨u, rfl, hu, _⟩, _⟩ := key wS (Below.refl _ _) []
      refine ⟨r, u, hK, hu, fun w hw => ?_⟩
      unfold Oper.quietAt
      rw [hrun w]
      refine ⟨rfl, (key w hw).mono ?_⟩
      rintro e w' ⟨u', rfl, h1, h2⟩
      exact ⟨by rw [plainV_unique hp h1 hu], h2⟩
    · exact h.elim
  · obtain ⟨v, u, h1, h2, h3⟩ := apure_sound (o := o) rfl hH hF h
    refine ⟨v, u, h1, h2, fun w hw => ?_⟩
    unfold Oper.quietAt
    rw [h3 w hw]
    exact ⟨rfl, rfl⟩

theorem aopsQ_sound (hΓ : SoundE P Γ) {ops : Array Oper} {H : AHeap} {K : AFrame → Prop} {φ : Nat → Place} {wS : World} (hH : HRep φ B H wS) {Q : Act → Prop}
    (hQ : ∀ F' a', FRep φ H.n F' a'.tmps → a'.tmps.size = N → a'.defers = [] → K F' → Q a') :
    ∀ (l : List Oper) {F : AFrame} {a : Act}, FRep φ H.n F a.tmps → a.tmps.size = N → a.defers = [] → aopsQ P Γ N H (l.map (prepOp ops)) F K → wpQuiet P ops (Below wS.heap.size wS) Q l a
  | [], F, a, hF, hs, hd, h => hQ F a hF hs hd h
  | o :: r, F, a, hF, hs, hdf, h => by
    simp only [List.map_cons, aopsQ] at h
    obtain ⟨hd, h⟩ := h
    have hd' : dstOk N o.dst := hd
    unfold wpQuiet
    rcases guard_of hF h with ⟨hw, h⟩ | ⟨hw, h⟩
    · rw [if_pos hw]
      obtain ⟨v, u, h1, h2, h3⟩ := stepQ_sound hΓ hH hF h
      exact ⟨u, h3, aopsQ_sound hΓ hH hQ r (hF.put hs hd' h2) (put_size.trans hs) (put_defers.trans hdf) h1⟩
    · rw [if_neg (by simp [hw])]
      exact aopsQ_sound hΓ hH hQ r (hF.put hs hd' (v := .tup []) ⟨[], rfl, trivial⟩) (put_size.trans hs) (put_defers.trans hdf) h

theorem cmp_inv {c : Code} {s : SCode} (h : cmp P c = some s) : match s with
    | .skip => c = .skip
    | .reg l => ∃ id ops, c = .region id ops false ∧ l = ops.toList.map (prepOp ops)
    | .regQ l => ∃ id ops, c = .region id ops true ∧ l = ops.toList.map (prepOp ops) ∧ P.follows .mixedOrders = true ∧ Region.lexB .any ops = true
    | .regT hd tl => ∃ id ops n, c = .region id ops true ∧ hd = (ops.toList.take n).map (prepOp ops) ∧ tl = (ops.toList.drop n).map (prepOp ops) ∧ P.follows .mixedOrders = true ∧ Region.lexTailB .any ops n = true
    | .seq x y => ∃ a b, c = .seq a b ∧ cmp P a = some x ∧ cmp P b = some y
    | .cond d x y => ∃ a b, c = .cond d a b ∧ cmp P a = some x ∧ cmp P b = some y
    | .block id x => ∃ a, c = .block id a ∧ cmp P a = some x
    | .loop x => ∃ a, c = .loop a ∧ cmp P a = some x
    | .exit id => c = .exit id
    | .ret => c = .ret := by
  cases c with
  | skip => simp [cmp] at h; subst h; rfl
  | region id ops d =>
    cases d with
    | false => simp [cmp] at h; subst h; exact ⟨id, ops, rfl, rfl⟩
    | true =>
      simp only [cmp] at h
      split at h
      · split at h
        · rename_i hc; simp at h; subst h; exact ⟨id, ops, rfl, rfl, hc.1, hc.2⟩
        · cases h
      · split at h
        · rename_i hc; simp only [Option.some.injEq] at h; subst h; exact ⟨id, ops, _, rfl, rfl, rfl, hc.1, hc.2⟩
        · cases h
  | seq a b =>
    simp only [cmp] at h
    split at h
    · rename_i x y e1 e2; simp at h; subst h; exact ⟨a, b, rfl, e1, e2⟩
    · cases h
  | cond d a b =>
    simp only [cmp] at h
    split at h
    · rename_i x y e1 e2; simp at h; subst h; exact ⟨a, b, rfl, e1, e2⟩
    · cases h
  | block id a =>
    simp only [cmp, Option.map_eq_some_iff] at h
    obtain ⟨x, h1, rfl⟩ := h
    exact ⟨a, rfl, h1⟩
  | loop a =>
    simp only [cmp, Option.map_eq_some_iff] at h
    obtain ⟨x, h1, rfl⟩ := h
    exact ⟨a, rfl, h1⟩
  | exit id => simp [cmp] at h; subst h; rfl
  | ret => simp [cmp] at h; subst h; rfl
  | _ => cases h

theorem AWp.mono {c : Code} {F : AFrame} {H : AHeap} {Q Q' : Exit → AFrame → AHeap → Prop} (h : AWp P N n0 c F H Q) (hq : ∀ e F' H', Q e F' H' → Q' e F' H') : AWp P N n0 c F H Q' :=
  fun φ0 B w0 φ a w hS => wp_mono (h φ0 B w0 φ a w hS) fun _ _ _ ⟨φ', F', H', h1, h2⟩ => ⟨φ', F', H', h1, hq _ _ _ h2⟩

theorem awp_seq {x y : Code} {F : AFrame} {H : AHeap} {Q : Exit → AFrame → AHeap → Prop} {K : AFrame → AHeap → Prop} (h : AWp P N n0 x F H (thenQ Q K)) (hk : ∀ F' H', K F' H' → AWp P N n0 y F' H' Q) : AWp P N n0 (.seq x y) F H Q := by
  intro φ0 B w0 φ a w hS
  refine wp_seq (wp_mono (h φ0 B w0 φ a w hS) ?_)
  rintro e a' w' ⟨φ', F', H', h1, h2⟩
  cases e with
  | normal => exact hk F' H' h2 φ0 B w0 φ' a' w' h1
  | _ => exact ⟨φ', F', H', h1, h2⟩

theorem awp_block {id : Nat} {x : Code} {F : AFrame} {H : AHeap} {Q : Exit → AFrame → AHeap → Prop} (h : AWp P N n0 x F H (blockQ id Q)) : AWp P N n0 (.block id x) F H Q := by
  intro φ0 B w0 φ a w hS
  refine wp_block (wp_mono (h φ0 B w0 φ a w hS) ?_)
  rintro e a' w' ⟨φ', F', H', h1, h2⟩
  cases e with
  | exit i =>
    simp only [Exit.inBlock, blockQ] at h2 ⊢
    split at h2
    · rename_i hi; rw [if_pos hi]; exact ⟨φ', F', H', h1, h2⟩
    · rename_i hi; rw [if_neg hi]; exact ⟨φ', F', H', h1, h2⟩
  | _ => exact ⟨φ', F', H', h1, h2⟩

/-- SOUNDNESS of code -/
theorem avc_sound (hΓ : SoundE P Γ) : ∀ (ac : ACode) {c : Code} {F : AFrame} {H : AHeap} {Q : Exit → AFrame → AHeap → Prop}, cmp P c = some ac.strip → avc P Γ N n0 ac F H Q → AWp P N n0 c F H Q := by
  intro ac
  induction ac with
  | skip =>
    intro c F H Q hc h φ0 B w0 φ a w hS
    have e : c = .skip := cmp_inv hc
    subst e
    exact wp_skip ⟨φ, F, H, hS, h⟩
  | reg l keep =>
    intro c F H Q hc h φ0 B w0 φ a w hS
    obtain ⟨id, ops, rfl, e⟩ := cmp_inv hc
    simp only [avc, e] at h
    exact wp_region_list (aops_sound hΓ (K := fun F' H' => Q .normal (F'.keep keep) H') (fun φ' F' H' a' w' hS' hK => ⟨φ', _, H', hS'.keepSlots keep, hK⟩) ops.toList hS h)
  | regQ l keep =>
    intro c F H Q hc h φ0 B w0 φ a w hS
    obtain ⟨id, ops, rfl, e, hm, hB⟩ := cmp_inv hc
    simp only [avc, e] at h
    have hd : Below w.heap.size w { w with drawn := w.drawn + 1 } := ⟨rfl, rfl, rfl, Nat.le_refl _, fun _ _ => rfl⟩
    have hH : HRep φ B H { w with drawn := w.drawn + 1 } := hS.heap.keep hd
    refine wp_region_quiet (C := Below w.heap.size { w with drawn := w.drawn + 1 }) hm hB (Below.refl _ _) ?_
    refine aopsQ_sound (wS := { w with drawn := w.drawn + 1 }) hΓ hH (fun F' a' hF' hs' hd' hK w' hw' => ?_) ops.toList hS.fr hS.size hS.nod h
    have hst : St N φ0 n0 B w0 φ F' H a' w' := ⟨hH.keep hw', hF', hs', hd', (hS.below.trans (hd.mono hS.heap.size)).trans (hw'.mono hS.heap.size), hS.n, hS.agree⟩
    exact ⟨φ, _, H, hst.keepSlots keep, hK⟩
  | regT hd tl keep =>
    intro c F H Q hc h φ0 B w0 φ a w hS
    obtain ⟨id, ops, n, rfl, e1, e2, hm, hB⟩ := cmp_inv hc
    simp only [avc, e1, e2] at h
    have hd : Below w.heap.size w { w with drawn := w.drawn + 1 } := ⟨rfl, rfl, rfl, Nat.le_refl _, fun _ _ => rfl⟩
    have hH : HRep φ B H { w with drawn := w.drawn + 1 } := hS.heap.keep hd
    refine wp_region_head n (C := Below w.heap.size { w with drawn := w.drawn + 1 }) hm hB (Below.refl _ _) ?_
    refine aopsQ_sound (wS := { w with drawn := w.drawn + 1 }) hΓ hH (fun F' a' hF' hs' hd' hK w' hw' => ?_) (ops.toList.take n) hS.fr hS.size hS.nod h
    have hst : St N φ0 n0 B w0 φ F' H a' w' := ⟨hH.keep hw', hF', hs', hd', (hS.below.trans (hd.mono hS.heap.size)).trans (hw'.mono hS.heap.size), hS.n, hS.agree⟩
    exact aops_sound hΓ (K := fun F' H' => Q .normal (F'.keep keep) H') (fun φ' F' H' a' w' hS' hK => ⟨φ', _, H', hS'.keepSlots keep, hK⟩) (ops.toList.drop n) hst hK
  | seq x y ihx ihy =>
    intro c F H Q hc h
    obtain ⟨a, b, rfl, h1, h2⟩ := cmp_inv hc
    exact awp_seq (ihx h1 h) fun F' H' hK => ihy h2 hK
  | cond d x y ihx ihy =>
    intro c F H Q hc h φ0 B w0 φ a w hS
    obtain ⟨p, q, rfl, h1, h2⟩ := cmp_inv hc
    obtain ⟨v, hv, h⟩ := onv_iff.1 h
    have he := eval_of hS.fr hv
    split at h
    · rename_i t
      have hc' : a.eval d = .bool t := he
      cases t with
      | true => exact wp_cond_true hc' (ihx h1 (h.1 rfl) φ0 B w0 φ a w hS)
      | false => exact wp_cond_false hc' (ihy h2 (h.2 rfl) φ0 B w0 φ a w hS)
    · exact h.elim
  | block id x ih =>
    intro c F H Q hc h
    obtain ⟨a, rfl, h1⟩ := cmp_inv hc
    exact awp_block (ih h1 h)
  | loop x ih =>
    intro c F H Q hc h
    obtain ⟨a, rfl, h1⟩ := cmp_inv hc
    exact h.run a h1
  | exit id =>
    intro c F H Q hc h φ0 B w0 φ a w hS
    have e : c = .exit id := cmp_inv hc
    subst e
    exact wp_exit ⟨φ, F, H, hS, h⟩
  | ret =>
    intro c F H Q hc h φ0 B w0 φ a w hS
    have e : c = .ret := cmp_inv hc
    subst e
    exact wp_ret ⟨φ, F, H, hS, h⟩

end
end Go.Proofs.YticknbohoolhgaaDoor
