/- The abstract machine, part S: operations one after the other. No program is named here. -/
import Derived.Test.YtafenginfojcmaaGreatDoorAbsK
namespace Go.Proofs.YtafenginfojcmaaGreatDoor
open Go.RowKit

/-- an operation: the slot that it writes, what it does, the slot (and its value) under which it runs -/
structure POp where
  dst : Option Tmp
  op : Op
  guard : Option (Option Tmp × Bool)

def prepOp (ops : Array Oper) (o : Oper) : POp := ⟨o.dst, o.op, o.guard.map fun g => ((ops[g.1]?).bind (·.dst), g.2)⟩

def AFrame.put (F : AFrame) (d : Option Tmp) (v : AV) : AFrame := match d with
  | some t => (t, v) :: F
  | none => F

def AFrame.keep (F : AFrame) : List Tmp → AFrame
  | [] => []
  | t :: r => match F.get t with
    | some v => (t, v) :: AFrame.keep F r
    | none => AFrame.keep F r

/-- contracts at hand -/
abbrev Con := List AV → AHeap → (AV → AHeap → Prop) → Prop
abbrev Env := List (FuncId × Con)
def Env.get : Env → FuncId → Con
  | [], _ => fun _ _ _ => False
  | (f, c) :: r, g => if f = g then c else Env.get r g
def Sound (P : Program) (g : FuncId) (c : Con) : Prop := ∀ args H K, c args H K → ACalls P g args H K
def SoundE (P : Program) (Γ : Env) : Prop := ∀ g args H K, Γ.get g args H K → ACalls P g args H K
theorem soundE_nil {P : Program} : SoundE P [] := fun _ _ _ _ h => h.elim
theorem soundE_cons {P : Program} {Γ : Env} {f : FuncId} {c : Con} (h : Sound P f c) (hr : SoundE P Γ) : SoundE P ((f, c) :: Γ) := fun g args H K hc => by
  unfold Env.get at hc
  split at hc
  · rename_i e; subst e; exact h args H K hc
  · exact hr g args H K hc

/-- a value that names no block -/
def plainV : AV → Bool
  | .c x => plainC x
  | .agg xs => xs.all plainC
  | .tup xs => xs.all fun
    | .c x => plainC x
    | .agg ys => ys.all plainC
    | .tup _ => false

/-- one operation; calls by the contracts at hand -/
def astep (P : Program) (Γ : Env) (H : AHeap) (F : AFrame) (op : Op) (K : AV → AHeap → Prop) : Prop := match op with
  | .call ⟨.value f, args, _⟩ => onv (opnd F f) fun
    | .c (.fn g caps) => onv (opnds F args.toList) fun vs => Γ.get g (vs ++ caps.map fun b => .c (.ptr b 0 0)) H K
    | _ => False
  | op => apure P H F op (fun v => K v H) ∨ aeff P H F op K
/-- one operation in a region that draws its order -/
def astepQ (P : Program) (Γ : Env) (H : AHeap) (F : AFrame) (op : Op) (K : AV → Prop) : Prop := match op with
  | .call ⟨.value f, args, _⟩ => onv (opnd F f) fun
    | .c (.fn g caps) => onv (opnds F args.toList) fun vs => ∃ r, plainV r = true ∧ Γ.get g (vs ++ caps.map fun b => .c (.ptr b 0 0)) H.toRo (fun r' H' => r' = r ∧ H' = H.toRo) ∧ K r
    | _ => False
  | op => apure P H F op K

def aguard (F : AFrame) (g : Option (Option Tmp × Bool)) (X Y : Prop) : Prop := match g with
  | none => X
  | some (some t, want) => onv (F.get t) fun
    | .c (.bool b) => (b = want → X) ∧ (b ≠ want → Y)
    | .tup _ => Y
    | _ => False
  | some (none, _) => False

def dstOk (N : Nat) : Option Tmp → Prop
  | some t => t < N
  | none => True

def aops (P : Program) (Γ : Env) (N : Nat) : List POp → AFrame → AHeap → (AFrame → AHeap → Prop) → Prop
  | [], F, H, K => K F H
  | o :: r, F, H, K => dstOk N o.dst ∧ aguard F o.guard (astep P Γ H F o.op fun v H' => aops P Γ N r (F.put o.dst v) H' K) (aops P Γ N r (F.put o.dst (.tup [])) H K)
def aopsQ (P : Program) (Γ : Env) (N : Nat) (H : AHeap) : List POp → AFrame → (AFrame → Prop) → Prop
  | [], F, K => K F
  | o :: r, F, K => dstOk N o.dst ∧ aguard F o.guard (astepQ P Γ H F o.op fun v => aopsQ P Γ N H r (F.put o.dst v) K) (aopsQ P Γ N H r (F.put o.dst (.tup [])) K)

structure St (N : Nat) (φ0 : Nat → Place) (n0 : Nat) (B : Bd) (w0 : World) (φ : Nat → Place) (F : AFrame) (H : AHeap) (a : Act) (w : World) : Prop where
  heap : HRep φ B H w
  fr : FRep φ H.n F a.tmps
  size : a.tmps.size = N
  nod : a.defers = []
  below : Kept B w0 w
  n : n0 ≤ H.n
  agree : ∀ b, b < n0 → φ b = φ0 b

section
variable {P : Program} {Γ : Env} {N n0 : Nat} {φ0 : Nat → Place} {B : Bd} {w0 : World}

theorem FRep.put {φ : Nat → Place} {n : Nat} {F : AFrame} {a : Act} (h : FRep φ n F a.tmps) (hs : a.tmps.size = N) {d : Option Tmp} (hd : dstOk N d) {v : AV} {u : Value} (hv : RepV φ n v u) : FRep φ n (F.put d v) (a.put d u).tmps := by
  cases d with
  | none => exact h
  | some d =>
    have hd' : d < N := hd
    intro t x hx
    simp only [AFrame.put, AFrame.get] at hx
    simp only [Act.put]
    split at hx
    · rename_i e; subst e
      simp at hx; subst hx
      exact ⟨u, Array.getElem?_setIfInBounds_self_of_lt (by rw [hs]; exact hd'), hv⟩
    · rename_i e
      obtain ⟨u', h1, h2⟩ := h t x hx
      exact ⟨u', by rw [Array.getElem?_setIfInBounds_ne e]; exact h1, h2⟩

theorem put_size {a : Act} {d : Option Tmp} {u : Value} : (a.put d u).tmps.size = a.tmps.size := by
  cases d <;> simp [Act.put]
theorem put_defers {a : Act} {d : Option Tmp} {u : Value} : (a.put d u).defers = a.defers := by
  cases d <;> simp [Act.put]

theorem FRep.mono {φ φ' : Nat → Place} {n n' : Nat} (ha : ∀ b, b < n → φ' b = φ b) (hn : n ≤ n') {F : AFrame} {tmps : Array Value} (h : FRep φ n F tmps) : FRep φ' n' F tmps := fun t v hv => by
  obtain ⟨u, h1, h2⟩ := h t v hv
  exact ⟨u, h1, h2.mono ha hn⟩

theorem keep_get {F : AFrame} : ∀ {l : List Tmp} {t : Tmp} {v : AV}, (F.keep l).get t = some v → F.get t = some v
  | [], _, _, h => by simp [AFrame.keep, AFrame.get] at h
  | s :: r, t, v, h => by
    unfold AFrame.keep at h
    split at h
    · rename_i u hu
      unfold AFrame.get at h
      split at h
      · rename_i e; subst e; rw [hu]; exact h
      · exact keep_get h
    · exact keep_get h

theorem St.keepSlots {φ : Nat → Place} {F : AFrame} {H : AHeap} {a : Act} {w : World} (h : St N φ0 n0 B w0 φ F H a w) (l : List Tmp) : St N φ0 n0 B w0 φ (F.keep l) H a w :=
  ⟨h.heap, fun t v hv => h.fr t v (keep_get hv), h.size, h.nod, h.below, h.n, h.agree⟩

/-- an operation's guard, in the model -/
theorem guard_of {φ : Nat → Place} {n : Nat} {F : AFrame} {a : Act} (hF : FRep φ n F a.tmps) {ops : Array Oper} {o : Oper} {X Y : Prop} (h : aguard F (prepOp ops o).guard X Y) :
    (Region.wanted o (yielded ops a.tmps) = true ∧ X) ∨ (Region.wanted o (yielded ops a.tmps) = false ∧ Y) := by
  unfold Region.wanted
  cases hg : o.guard with
  | none => simp [prepOp, hg, aguard] at h; exact .inl ⟨rfl, h⟩
  | some g =>
    obtain ⟨j, want⟩ := g
    simp only [prepOp, hg, Option.map_some, aguard] at h
    split at h
    · rename_i heq; cases heq
    · rename_i t want' heq
      simp only [Option.some.injEq, Prod.mk.injEq] at heq
      obtain ⟨h1, rfl⟩ := heq
      obtain ⟨v, hv, h⟩ := onv_iff.1 h
      split at h
      · rename_i b
        obtain ⟨u, h2, h3⟩ := hF t _ hv
        have hu : u = .bool b := h3
        subst hu
        have hy : yielded ops a.tmps j = some b := by simp [yielded, h1, h2]
        show ((yielded ops a.tmps j == some want) = true ∧ X) ∨ ((yielded ops a.tmps j == some want) = false ∧ Y)
        rw [hy]
        by_cases hb : b = want
        · exact .inl ⟨by simp [hb], h.1 hb⟩
        · exact .inr ⟨by simp [hb], h.2 hb⟩
      · obtain ⟨u, h2, h3⟩ := hF t _ hv
        obtain ⟨us, hu, _⟩ := h3
        subst hu
        have hy : yielded ops a.tmps j = none := by simp [yielded, h1, h2]
        show ((yielded ops a.tmps j == some want) = true ∧ X) ∨ ((yielded ops a.tmps j == some want) = false ∧ Y)
        rw [hy]
        exact .inr ⟨by simp, h⟩
      · exact h.elim
    · exact h.elim

theorem step_eff {op : Op} {H : AHeap} {F : AFrame} {K : AV → AHeap → Prop} (hΓ : SoundE P Γ) (h : astep P Γ H F op K) : apure P H F op (fun v => K v H) ∨ aeff P H F op K := by
  unfold astep at h
  split at h
  · rename_i f args ts
    right
    simp only [aeff]
    obtain ⟨fv, hf, h⟩ := onv_iff.1 h
    refine onv_iff.2 ⟨fv, hf, ?_⟩
    split at h
    · rename_i g caps
      obtain ⟨vs, hv, h⟩ := onv_iff.1 h
      exact onv_iff.2 ⟨vs, hv, hΓ _ _ _ _ h⟩
    · exact h.elim
  · exact h

theorem aops_sound (hΓ : SoundE P Γ) {ops : Array Oper} {Q : Exit → Act → World → Prop} {K : AFrame → AHeap → Prop} (hQ : ∀ φ' F' H' a' w', St N φ0 n0 B w0 φ' F' H' a' w' → K F' H' → Q .normal a' w') :
    ∀ (l : List Oper) {φ : Nat → Place} {F : AFrame} {H : AHeap} {a : Act} {w : World}, St N φ0 n0 B w0 φ F H a w → aops P Γ N (l.map (prepOp ops)) F H K → wpList P ops Q l a w
  | [], φ, F, H, a, w, hS, h => hQ φ F H a w hS h
  | o :: r, φ, F, H, a, w, hS, h => by
    simp only [List.map_cons, aops] at h
    obtain ⟨hd, h⟩ := h
    have hd' : dstOk N o.dst := hd
    unfold wpList
    rcases guard_of hS.fr h with ⟨hw, h⟩ | ⟨hw, h⟩
    · rw [if_pos hw]
      left
      rcases step_eff hΓ h with h | h
      · obtain ⟨v, u, h1, h2, h3⟩ := apure_sound (o := o) rfl hS.heap hS.fr h
        unfold Oper.wp
        rw [h3 w (Below.refl _ _), Oper.upon_value]
        exact aops_sound hΓ hQ r ⟨hS.heap, hS.fr.put hS.size hd' h2, put_size.trans hS.size, put_defers.trans hS.nod, hS.below, hS.n, hS.agree⟩ h1
      · refine aeff_sound (o := o) rfl hS.heap hS.fr h _ _ fun v u φ' H' w' h1 h2 h3 h4 h5 h6 => ?_
        exact aops_sound hΓ hQ r ⟨h3, (hS.fr.mono h6 h5).put hS.size hd' h2, put_size.trans hS.size, put_defers.trans hS.nod, hS.below.trans h4, Nat.le_trans hS.n h5,
          fun b hb => (h6 b (Nat.lt_of_lt_of_le hb hS.n)).trans (hS.agree b hb)⟩ h1
    · rw [if_neg (by simp [hw])]
      exact aops_sound hΓ hQ r ⟨hS.heap, hS.fr.put hS.size hd' (v := .tup []) ⟨[], rfl, trivial⟩, put_size.trans hS.size, put_defers.trans hS.nod, hS.below, hS.n, hS.agree⟩ h

/-! ### values that name no block -/
theorem plainC_unique {φ φ' : Nat → Place} {n n' : Nat} {x : AC} {u u' : Value} (hp : plainC x = true) (h : RepC φ n x u) (h' : RepC φ' n' x u') : u = u' := by
  cases x <;> first | (simp [plainC] at hp; done) | exact (show u = _ from h).trans (show u' = _ from h').symm
theorem plainL_unique {φ φ' : Nat → Place} {n n' : Nat} : ∀ {xs : List AC} {us us' : List Value}, xs.all plainC = true → RepL φ n xs us → RepL φ' n' xs us' → us = us'
  | [], [], [], _, _, _ => rfl
  | x :: xs, u :: us, u' :: us', hp, h, h' => by
    simp only [List.all_cons, Bool.and_eq_true] at hp
    rw [plainC_unique hp.1 h.1 h'.1, plainL_unique hp.2 h.2 h'.2]
  | [], _ :: _, _, _, h, _ => h.elim
  | [], [], _ :: _, _, _, h => h.elim
  | _ :: _, [], _, _, h, _ => h.elim
  | _ :: _, _ :: _, [], _, _, h => h.elim
theorem plain1_unique {φ φ' : Nat → Place} {n n' : Nat} {x : AV} {u u' : Value} (hp : (match x with | .c x => plainC x | .agg ys => ys.all plainC | .tup _ => false) = true) (h : Rep1 φ n x u) (h' : Rep1 φ' n' x u') : u = u' := by
  cases x with
  | c x => exact plainC_unique hp h h'
  | agg ys =>
    obtain ⟨vs, h1, h2⟩ := h
    obtain ⟨vs', h3, h4⟩ := h'
    rw [h1, h3, plainL_unique hp h2 h4]
  | tup _ => exact h.elim
theorem plainT_unique {φ φ' : Nat → Place} {n n' : Nat} : ∀ {xs : List AV} {us us' : List Value}, (xs.all fun | .c x => plainC x | .agg ys => ys.all plainC | .tup _ => false) = true → RepT φ n xs us → RepT φ' n' xs us' → us = us'
  | [], [], [], _, _, _ => rfl
  | x :: xs, u :: us, u' :: us', hp, h, h' => by
    simp only [List.all_cons, Bool.and_eq_true] at hp
    rw [plain1_unique hp.1 h.1 h'.1, plainT_unique hp.2 h.2 h'.2]
  | [], _ :: _, _, _, h, _ => h.elim
  | [], [], _ :: _, _, _, h => h.elim
  | _ :: _, [], _, _, h, _ => h.elim
  | _ :: _, _ :: _, [], _, _, h => h.elim
theorem plainV_unique {φ φ' : Nat → Place} {n n' : Nat} {x : AV} {u u' : Value} (hp : plainV x = true) (h : RepV φ n x u) (h' : RepV φ' n' x u') : u = u' := by
  cases x with
  | c x => exact plainC_unique hp h h'
  | agg ys => exact plain1_unique (x := .agg ys) hp h h'
  | tup xs =>
    obtain ⟨vs, h1, h2⟩ := h
    obtain ⟨vs', h3, h4⟩ := h'
    rw [h1, h3, plainT_unique hp h2 h4]
theorem plainC_mono {φ φ' : Nat → Place} {n n' : Nat} {x : AC} {u : Value} (hp : plainC x = true) (h : RepC φ n x u) : RepC φ' n' x u := by
  cases x <;> first | (simp [plainC] at hp; done) | exact h
theorem plainL_mono {φ φ' : Nat → Place} {n n' : Nat} : ∀ {xs : List AC} {us : List Value}, xs.all plainC = true → RepL φ n xs us → RepL φ' n' xs us
  | [], [], _, _ => trivial
  | x :: xs, u :: us, hp, h => by
    simp only [List.all_cons, Bool.and_eq_true] at hp
    exact ⟨plainC_mono hp.1 h.1, plainL_mono hp.2 h.2⟩
  | [], _ :: _, _, h => h.elim
  | _ :: _, [], _, h => h.elim
theorem plain1_mono {φ φ' : Nat → Place} {n n' : Nat} {x : AV} {u : Value} (hp : (match x with | .c x => plainC x | .agg ys => ys.all plainC | .tup _ => false) = true) (h : Rep1 φ n x u) : Rep1 φ' n' x u := by
  cases x with
  | c x => exact plainC_mono hp h
  | agg ys => obtain ⟨vs, h1, h2⟩ := h; exact ⟨vs, h1, plainL_mono hp h2⟩
  | tup _ => exact h.elim
theorem plainT_mono {φ φ' : Nat → Place} {n n' : Nat} : ∀ {xs : List AV} {us : List Value}, (xs.all fun | .c x => plainC x | .agg ys => ys.all plainC | .tup _ => false) = true → RepT φ n xs us → RepT φ' n' xs us
  | [], [], _, _ => trivial
  | x :: xs, u :: us, hp, h => by
    simp only [List.all_cons, Bool.and_eq_true] at hp
    exact ⟨plain1_mono hp.1 h.1, plainT_mono hp.2 h.2⟩
  | [], _ :: _, _, h => h.elim
  | _ :: _, [], _, h => h.elim
theorem plainV_mono {φ φ' : Nat → Place} {n n' : Nat} {x : AV} {u : Value} (hp : plainV x = true) (h : RepV φ n x u) : RepV φ' n' x u := by
  cases x with
  | c x => exact plainC_mono hp h
  | agg ys => exact plain1_mono (x := .agg ys) hp h
  | tup xs => obtain ⟨vs, h1, h2⟩ := h; exact ⟨vs, h1, plainT_mono hp h2⟩

end
end Go.Proofs.YtafenginfojcmaaGreatDoor
