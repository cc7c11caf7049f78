/- The abstract machine, part M: forgetting and renaming blocks; loops; functions. No program is named here. -/
import Derived.Test.YtafenginfojcmaaGreatDoorAbsL
namespace Go.Proofs.YtafenginfojcmaaGreatDoor
open Go.RowKit

/-! ### renaming: a block of the new heap is a block of the old one, or an empty row that nobody has made -/
def AC.ren (ρ : Nat → Option Nat) : AC → AC
  | .ptr b i j => .ptr ((ρ b).getD 0) i j
  | .sl b i m => match ρ b with
    | some c => .sl c i m
    | none => .nils
  | .fn f caps => .fn f (caps.map fun b => (ρ b).getD 0)
  | x => x
def AC.okR (ρ : Nat → Option Nat) (n : Nat) : AC → Prop
  | .ptr b _ _ => b < n ∧ (ρ b).isSome = true
  | .sl b i m => b < n ∧ (ρ b = none → i = 0 ∧ m = 0)
  | .fn _ caps => ∀ b ∈ caps, b < n ∧ (ρ b).isSome = true
  | _ => True
def AV.ren1 (ρ : Nat → Option Nat) : AV → AV
  | .c x => .c (x.ren ρ)
  | .agg xs => .agg (xs.map (AC.ren ρ))
  | .tup xs => .tup xs
def AV.ok1 (ρ : Nat → Option Nat) (n : Nat) : AV → Prop
  | .c x => x.okR ρ n
  | .agg xs => ∀ x ∈ xs, x.okR ρ n
  | .tup _ => True
def AV.ren (ρ : Nat → Option Nat) : AV → AV
  | .tup xs => .tup (xs.map (AV.ren1 ρ))
  | x => x.ren1 ρ
def AV.okR (ρ : Nat → Option Nat) (n : Nat) : AV → Prop
  | .tup xs => ∀ x ∈ xs, x.ok1 ρ n
  | x => x.ok1 ρ n

def frOk (ρ : Nat → Option Nat) (n : Nat) (F' : AFrame) : AFrame → Prop
  | [] => True
  | (t, v) :: r => v.okR ρ n ∧ F'.get t = some (v.ren ρ) ∧ frOk ρ n F' r

theorem frOk_get {ρ : Nat → Option Nat} {n : Nat} {F' : AFrame} : ∀ {F : AFrame}, frOk ρ n F' F → ∀ t v, F.get t = some v → v.okR ρ n ∧ F'.get t = some (v.ren ρ)
  | [], _, t, v, hv => by simp [AFrame.get] at hv
  | (s, u) :: r, h, t, v, hv => by
    unfold AFrame.get at hv
    split at hv
    · rename_i e; subst e; simp at hv; subst hv; exact ⟨h.1, h.2.1⟩
    · exact frOk_get h.2.2 t v hv

def AHeap.okB (ρ : Nat → Option Nat) (H' : AHeap) (n b : Nat) (k : ABlk) : Prop :=
  b < n ∧ match ρ b with
    | some c => ∃ k', H'.b c = some k' ∧ k'.ty = k.ty ∧ k'.esz = k.esz ∧ k'.ro = k.ro ∧ k'.fz = k.fz ∧ k'.els = k.els.map (fun e => e.map (AC.ren ρ)) ∧ ∀ e ∈ k.els, ∀ x ∈ e, x.okR ρ n
    | none => k.els = [] ∧ k.ro = false

structure Weak (n0 : Nat) (F' : AFrame) (H' : AHeap) (F : AFrame) (H : AHeap) : Prop where
  ex : ∃ ρ : Nat → Option Nat, (∀ b, b < n0 → ρ b = some b) ∧ n0 ≤ H.n ∧ H.I = H'.I ∧ frOk ρ H.n F' F ∧ (∀ b k, H.b b = some k → H'.okB ρ H.n b k) ∧
    ∀ b k b' k' c, H.b b = some k → H.b b' = some k' → k.ro = false → k'.ro = false → ρ b = some c → ρ b' = some c → b = b'

def renP (φ : Nat → Place) (ρ : Nat → Option Nat) (H : AHeap) : Nat → Place := fun b => match ρ b with
  | some c => φ c
  | none => ⟨0, 0, ((H.b b).map ABlk.esz).getD 0, 0⟩

section
variable {φ : Nat → Place} {ρ : Nat → Option Nat} {H : AHeap} {n n' : Nat}

theorem RepC.ren {x : AC} {v : Value} (h : RepC φ n' (x.ren ρ) v) (ho : x.okR ρ n) : RepC (renP φ ρ H) n x v := by
  cases x with
  | int k m => exact h
  | bool b => exact h
  | str s => exact h
  | nils => exact h
  | ptr b i j =>
    obtain ⟨h1, h2⟩ := ho
    obtain ⟨c, hc⟩ := Option.isSome_iff_exists.1 h2
    have h' := (show RepC φ n' (.ptr ((ρ b).getD 0) i j) v from h)
    rw [hc] at h'
    exact ⟨h1, by simp only [renP, hc]; exact h'.2⟩
  | sl b i m =>
    obtain ⟨h1, h2⟩ := ho
    simp only [AC.ren] at h
    cases hc : ρ b with
    | some c =>
      rw [hc] at h
      obtain ⟨_, a, cap, h3, h4, h5, h6⟩ := h
      exact ⟨h1, a, cap, h3, h4, by simp only [renP, hc]; exact h5, by simp only [renP, hc]; exact h6⟩
    | none =>
      rw [hc] at h
      obtain ⟨rfl, rfl⟩ := h2 hc
      obtain ⟨a, rfl⟩ := h
      exact ⟨h1, a, 0, rfl, Nat.le_refl _, Nat.zero_le _, fun h0 => absurd h0 (Nat.lt_irrefl 0)⟩
  | fn f caps =>
    have h' := (show RepC φ n' (.fn f (caps.map fun b => (ρ b).getD 0)) v from h)
    refine ⟨fun b hb => (ho b hb).1, ?_⟩
    rw [h'.2, List.map_map]
    congr 2
    refine List.map_congr_left fun b hb => ?_
    obtain ⟨c, hc⟩ := Option.isSome_iff_exists.1 (ho b hb).2
    simp [renP, hc]

theorem RepL.ren : ∀ {xs : List AC} {vs : List Value}, RepL φ n' (xs.map (AC.ren ρ)) vs → (∀ x ∈ xs, x.okR ρ n) → RepL (renP φ ρ H) n xs vs
  | [], [], _, _ => trivial
  | x :: xs, v :: vs, h, ho => ⟨RepC.ren h.1 (ho x (by simp)), RepL.ren h.2 fun y hy => ho y (by simp [hy])⟩
  | [], _ :: _, h, _ => h.elim
  | _ :: _, [], h, _ => h.elim

theorem Rep1.ren {x : AV} {v : Value} (h : Rep1 φ n' (x.ren1 ρ) v) (ho : x.ok1 ρ n) : Rep1 (renP φ ρ H) n x v := by
  cases x with
  | c x => exact RepC.ren h ho
  | agg xs => obtain ⟨vs, h1, h2⟩ := h; exact ⟨vs, h1, RepL.ren h2 ho⟩
  | tup xs => exact h.elim

theorem RepT.ren : ∀ {xs : List AV} {vs : List Value}, RepT φ n' (xs.map (AV.ren1 ρ)) vs → (∀ x ∈ xs, x.ok1 ρ n) → RepT (renP φ ρ H) n xs vs
  | [], [], _, _ => trivial
  | x :: xs, v :: vs, h, ho => ⟨Rep1.ren h.1 (ho x (by simp)), RepT.ren h.2 fun y hy => ho y (by simp [hy])⟩
  | [], _ :: _, h, _ => h.elim
  | _ :: _, [], h, _ => h.elim

theorem RepV.ren {x : AV} {v : Value} (h : RepV φ n' (x.ren ρ) v) (ho : x.okR ρ n) : RepV (renP φ ρ H) n x v := by
  cases x with
  | c x => exact RepC.ren h ho
  | agg xs => exact Rep1.ren (x := .agg xs) h ho
  | tup xs => obtain ⟨vs, h1, h2⟩ := h; exact ⟨vs, h1, RepT.ren h2 ho⟩
end

theorem HRep.weak {φ : Nat → Place} {B : Bd} {H H' : AHeap} {w : World} {ρ : Nat → Option Nat} (h : HRep φ B H' w) (hb : ∀ b k, H.b b = some k → H'.okB ρ H.n b k)
    (hi : ∀ b k b' k' c, H.b b = some k → H.b b' = some k' → k.ro = false → k'.ro = false → ρ b = some c → ρ b' = some c → b = b') (hI : H.I = H'.I) : HRep (renP φ ρ H) B H w := by
  have key : ∀ b k, H.b b = some k → (∃ c k', ρ b = some c ∧ H'.b c = some k' ∧ renP φ ρ H b = φ c ∧ k'.ty = k.ty ∧ k'.esz = k.esz ∧ k'.ro = k.ro ∧ k'.fz = k.fz ∧ k'.els = k.els.map (fun e => e.map (AC.ren ρ)) ∧ ∀ e ∈ k.els, ∀ x ∈ e, x.okR ρ H.n) ∨
      (renP φ ρ H b = ⟨0, 0, k.esz, 0⟩ ∧ k.els = [] ∧ k.ro = false) := fun b k hk => by
    obtain ⟨h1, h2⟩ := hb b k hk
    cases hc : ρ b with
    | some c =>
      rw [hc] at h2
      obtain ⟨k', g⟩ := h2
      exact .inl ⟨c, k', rfl, g.1, by simp [renP, hc], g.2⟩
    | none =>
      rw [hc] at h2
      exact .inr ⟨by simp [renP, hc, hk], h2⟩
  refine ⟨h.size, h.tlt, fun b k hk => (hb b k hk).1, fun b k hk => ?_, fun b k hk hr hp => ?_, fun b k hk hr hp => ?_, fun b k b' k' hk hk' hr hr' hp hp' he => ?_, fun b k hk => ?_, fun w' h' => by rw [hI]; exact h.inv w' h'⟩
  · rcases key b k hk with ⟨c, k', h1, h2, h3, e1, e2, e3, e4, e5, e6⟩ | ⟨h1, h2, h3⟩
    · rw [h3]
      have hc := h.cells c k' h2
      refine ⟨by rw [hc.esz, e2], by have := hc.cap; rw [e5] at this; simpa using this, fun i e hi' => ?_, fun i e hi' j x hx => ?_⟩
      · have := hc.len i (e.map (AC.ren ρ)) (by rw [e5]; simp [hi'])
        rw [← e2, ← this]; simp
      · obtain ⟨v, hv, hr⟩ := hc.cell i (e.map (AC.ren ρ)) (by rw [e5]; simp [hi']) j (x.ren ρ) (by simp [hx])
        exact ⟨v, hv, hr.ren (e6 e (List.mem_of_getElem? hi') x (List.mem_of_getElem? hx))⟩
    · rw [h1]
      exact ⟨rfl, by simp [h2], fun i e hi' => by simp [h2] at hi', fun i e hi' => by simp [h2] at hi'⟩
  · rcases key b k hk with ⟨c, k', h1, h2, h3, e1, e2, e3, e4, e5, e6⟩ | ⟨h1, h2, h3⟩
    · rw [h3] at hp ⊢
      obtain ⟨f1, fo, f2, f3, cs, fz, f4, f5, f6, f7⟩ := h.own c k' h2 (by rw [e3]; exact hr) hp
      exact ⟨f1, fo, f2, f3, cs, fz, by rw [← e1]; exact f4, f5, fun hz => f6 (by rw [e4]; exact hz), f7⟩
    · rw [h1] at hp; exact absurd hp (Nat.lt_irrefl 0)
  · rcases key b k hk with ⟨c, k', h1, h2, h3, e1, e2, e3, e4, e5, e6⟩ | ⟨h1, h2, h3⟩
    · rw [h3] at hp ⊢
      exact h.ro c k' h2 (by rw [e3]; exact hr) hp
    · rw [h3] at hr; cases hr
  · rcases key b k hk with ⟨c, k1, h1, h2, h3, e1, e2, e3, e4, e5, e6⟩ | ⟨h1, h2, h3⟩
    · rcases key b' k' hk' with ⟨c', k2, g1, g2, g3, d1, d2, d3, d4, d5, d6⟩ | ⟨g1, g2, g3⟩
      · rw [h3] at hp he; rw [g3] at hp' he
        have := h.apart c k1 c' k2 h2 g2 (by rw [e3]; exact hr) (by rw [d3]; exact hr') hp hp' he
        subst this
        exact hi b k b' k' c hk hk' hr hr' h1 g1
      · rw [g1] at hp'; exact absurd hp' (Nat.lt_irrefl 0)
    · rw [h1] at hp; exact absurd hp (Nat.lt_irrefl 0)
  · rcases key b k hk with ⟨c, k', h1, h2, h3, e1, e2, e3, e4, e5, e6⟩ | ⟨h1, h2, h3⟩
    · have := h.mx c k' h2; rw [e5] at this; simpa using this
    · simp [h2]

section
variable {P : Program} {Γ : Env} {N n0 : Nat} {φ0 : Nat → Place} {B : Bd} {w0 : World}

theorem St.weak {φ : Nat → Place} {F F' : AFrame} {H H' : AHeap} {a : Act} {w : World} (h : St N φ0 n0 B w0 φ F' H' a w) (hw : Weak n0 F' H' F H) : ∃ φ', St N φ0 n0 B w0 φ' F H a w := by
  obtain ⟨ρ, h1, h2, hI, h3, h4, h5⟩ := hw.ex
  refine ⟨renP φ ρ H, h.heap.weak h4 h5 hI, fun t v hv => ?_, h.size, h.nod, h.below, h2, fun b hb => ?_⟩
  · obtain ⟨g1, g2⟩ := frOk_get h3 t v hv
    obtain ⟨u, hu, hr⟩ := h.fr t _ g2
    exact ⟨u, hu, hr.ren g1⟩
  · simp only [renP, h1 b hb]; exact h.agree b hb

theorem ALoop.weak {b : ACode} {F F' : AFrame} {H H' : AHeap} {Q : Exit → AFrame → AHeap → Prop} (hw : Weak n0 F' H' F H) (h : ALoop P N n0 b F H Q) : ALoop P N n0 b F' H' Q :=
  ⟨fun ch c hc φ0 B w0 φ a w hS => by
    obtain ⟨φ', hS'⟩ := hS.weak hw
    exact h.run ch c hc φ0 B w0 φ' a w hS'⟩

theorem least {p : Nat → Prop} (h : ∃ n, p n) : ∃ n, p n ∧ ∀ m, p m → n ≤ m := by
  obtain ⟨n, hn⟩ := h
  induction n using Nat.strongRecOn with
  | _ n ih =>
    by_cases h' : ∃ m, m < n ∧ p m
    · obtain ⟨m, h1, h2⟩ := h'
      exact ih m h1 h2
    · exact ⟨n, hn, fun m hm => by
        rcases Nat.lt_or_ge m n with hlt | hge
        · exact absurd ⟨m, hlt, hm⟩ h'
        · exact hge⟩

/-- A LOOP: what holds at the head of each round is one of a family of frames and heaps; each round lowers a number -/
theorem aloop_wp {X : Type} (Fi : X → AFrame) (Hi : X → AHeap) (inv : X → Prop) (μ : X → Nat) (body : ACode) {Q : Exit → AFrame → AHeap → Prop}
    (step : ∀ x, inv x → ∀ (ch : Nat → Bool) (c : Code), cmp P ch c = some body.strip → AWp P N n0 c (Fi x) (Hi x) (thenQ Q fun F' H' => ∃ x', inv x' ∧ μ x' < μ x ∧ Weak n0 F' H' (Fi x') (Hi x'))) (x : X) (hx : inv x) : ALoop P N n0 body (Fi x) (Hi x) Q := by
  refine ⟨fun ch c hc φ0 B w0 φ a w hS => ?_⟩
  let I : X → Act → World → Prop := fun x a w => inv x ∧ ∃ φ, St N φ0 n0 B w0 φ (Fi x) (Hi x) a w
  let M : Act → World → Nat → Prop := fun a w m => ∃ x, I x a w ∧ μ x = m
  classical
  let m : Act → World → Nat := fun a w => if h : ∃ m, M a w m then Classical.choose (least h) else 0
  refine wp_loop (fun a w => ∃ x, I x a w) m ⟨x, hx, φ, hS⟩ ?_
  rintro a w ⟨x1, hx1⟩
  have hex : ∃ m, M a w m := ⟨_, x1, hx1, rfl⟩
  obtain ⟨x, ⟨hx, φ, hS⟩, hm⟩ := (Classical.choose_spec (least hex)).1
  have hmw : m a w = μ x := by simp only [m, dif_pos hex]; exact hm.symm
  refine wp_mono (step x hx ch c hc φ0 B w0 φ a w hS) ?_
  rintro e a' w' ⟨φ', F', H', hS', hQ⟩
  cases e with
  | normal =>
    obtain ⟨x', h1, h2, h3⟩ := hQ
    obtain ⟨φ'', hS''⟩ := hS'.weak h3
    refine ⟨⟨x', h1, φ'', hS''⟩, ?_⟩
    have hex' : ∃ m, M a' w' m := ⟨_, x', ⟨h1, φ'', hS''⟩, rfl⟩
    have : m a' w' ≤ μ x' := by
      simp only [m, dif_pos hex']
      exact (Classical.choose_spec (least hex')).2 _ ⟨x', ⟨h1, φ'', hS''⟩, rfl⟩
    omega
  | _ => exact ⟨φ', F', H', hS', hQ⟩

theorem aloop_of {X : Type} (Fi : X → AFrame) (Hi : X → AHeap) (inv : X → Prop) (μ : X → Nat) (hΓ : SoundE P Γ) (body : ACode) {Q : Exit → AFrame → AHeap → Prop}
    (step : ∀ x, inv x → avc P Γ N n0 body (Fi x) (Hi x) (thenQ Q fun F' H' => ∃ x', inv x' ∧ μ x' < μ x ∧ Weak n0 F' H' (Fi x') (Hi x'))) (x : X) (hx : inv x) : ALoop P N n0 body (Fi x) (Hi x) Q := by
  exact aloop_wp Fi Hi inv μ body (fun x hx _ c hc => avc_sound hΓ body hc (step x hx)) x hx

/-! ### functions -/
def AHeap.WF (H : AHeap) : Prop := ∀ b k, H.b b = some k → b < H.n ∧ (∀ e ∈ k.els, ∀ x ∈ e, AC.okR some H.n x) ∧ k.els.length ≤ 9223372036854775807

def argsF : Nat → List AV → AFrame
  | _, [] => []
  | i, v :: r => (i, v) :: argsF (i + 1) r

def isOne : AV → Bool
  | .tup _ => false
  | _ => true
def ares (P : Program) (H : AHeap) (F : AFrame) : List ResultVar → (List AV → Prop) → Prop
  | [], K => K []
  | .tmp t :: r, K => onv (F.get t) fun v => isOne v = true ∧ ares P H F r fun vs => K (v :: vs)
  | .cell t ty :: r, K => apure P H F (.load ty (.tmp t)) fun v => isOne v = true ∧ ares P H F r fun vs => K (v :: vs)
def retV : List AV → AV
  | [v] => v
  | vs => .tup vs
def retQ (K : AFrame → AHeap → Prop) : Exit → AFrame → AHeap → Prop
  | .normal, F, H => K F H
  | .ret, F, H => K F H
  | _, _, _ => False

theorem argsF_get : ∀ (vs : List AV) (i t : Nat) (v : AV), (argsF i vs).get t = some v → i ≤ t ∧ vs[t - i]? = some v
  | [], _, _, _, h => by simp [argsF, AFrame.get] at h
  | u :: r, i, t, v, h => by
    simp only [argsF, AFrame.get] at h
    split at h
    · rename_i e; subst e; simp at h; subst h; simp
    · rename_i e
      obtain ⟨h1, h2⟩ := argsF_get r (i + 1) t v h
      refine ⟨by omega, ?_⟩
      rw [show t - i = (t - (i + 1)) + 1 by omega]
      simpa using h2

theorem repT_length {φ : Nat → Place} {n : Nat} : ∀ {xs : List AV} {vs : List Value}, RepT φ n xs vs → vs.length = xs.length
  | [], [], _ => rfl
  | _ :: _, _ :: _, h => by simp [repT_length h.2]
  | [], _ :: _, h => h.elim
  | _ :: _, [], h => h.elim

theorem rep1_v {φ : Nat → Place} {n : Nat} {x : AV} {u : Value} (h : Rep1 φ n x u) : RepV φ n x u := by
  cases x with
  | c x => exact h
  | agg xs => exact h
  | tup xs => exact h.elim
theorem repV_1 {φ : Nat → Place} {n : Nat} {x : AV} {u : Value} (h : RepV φ n x u) (h1 : isOne x = true) : Rep1 φ n x u := by
  cases x with
  | c x => exact h
  | agg xs => exact h
  | tup xs => cases h1

/-- a result, as the model reads it -/
def resSem (tmps : Array Value) (x : ResultVar) : Sem Value := match x with
  | .tmp t => pure (tmps.getD t undef)
  | .cell a t => do loadVar t (← asAddr (tmps.getD a undef))

theorem ares_sound {φ : Nat → Place} {B : Bd} {H : AHeap} {F : AFrame} {a : Act} {w : World} (hH : HRep φ B H w) (hF : FRep φ H.n F a.tmps) :
    ∀ (rs : List ResultVar) {K : List AV → Prop}, ares P H F rs K → ∃ vs us, K vs ∧ RepT φ H.n vs us ∧
      (rs.mapM (resSem a.tmps)).run P w = .ok us w
  | [], K, h => ⟨[], [], h, trivial, by simp⟩
  | .tmp t :: r, K, h => by
    obtain ⟨v, hv, h1, h⟩ := onv_iff.1 h
    obtain ⟨vs, us, h2, h3, h4⟩ := ares_sound hH hF r h
    obtain ⟨u, hu, hr⟩ := hF t v hv
    refine ⟨v :: vs, u :: us, h2, ⟨repV_1 hr h1, h3⟩, ?_⟩
    simp only [List.mapM_cons, Sem.run_bind, Sem.run_pure, Result.andThen_ok, h4, resSem]
    simp [hu]
  | .cell t ty :: r, K, h => by
    obtain ⟨v, u, ⟨h1, h⟩, hr, hy⟩ := apure_sound (o := { dst := none, op := .load ty (.tmp t), type := 0, pos := "", after := #[], guard := none }) (w := w) rfl hH hF h
    obtain ⟨vs, us, h2, h3, h4⟩ := ares_sound hH hF r h
    have h5 := hy w (Below.refl _ _)
    have h6 : (do loadVar ty (← asAddr (a.tmps.getD t undef)) : Sem Value).run P w = .ok u w := by
      simp only [execOp, Act.eval, Instr.loadAt, Sem.run_bind] at h5 ⊢
      generalize a.tmps.getD t undef = x at h5 ⊢
      cases x with
      | pointer p =>
        cases p with
        | none => simp [Instr.sureAddr] at h5
        | some p =>
          simp only [Instr.sureAddr, asAddr, Sem.run_pure, Result.andThen_ok] at h5 ⊢
          cases hl : (loadVar ty p).run P w with
          | ok y w' => rw [hl] at h5; simpa using h5
          | halt y w' => rw [hl] at h5; simp at h5
      | _ => simp [Instr.sureAddr] at h5
    refine ⟨v :: vs, u :: us, h2, ⟨repV_1 hr h1, h3⟩, ?_⟩
    have h7 : (resSem a.tmps (.cell t ty)).run P w = .ok u w := h6
    simp only [List.mapM_cons, Sem.run_bind, Sem.run_pure, Result.andThen_ok, h4, h7]

theorem HRep.wf {φ : Nat → Place} {H : AHeap} {w : World} (hH : HRep φ B H w) : H.WF := fun b k hk => by
  refine ⟨hH.lt b k hk, fun e he x hx => ?_, hH.mx b k hk⟩
  obtain ⟨i, hi⟩ := List.getElem?_of_mem he
  obtain ⟨j, hj⟩ := List.getElem?_of_mem hx
  obtain ⟨v, _, hv⟩ := (hH.cells b k hk).cell i e hi j x hj
  cases x with
  | ptr b' i' j' => exact ⟨hv.1, rfl⟩
  | sl b' i' m => exact ⟨hv.1, fun h0 => by cases h0⟩
  | fn f' caps => exact fun b' hb' => ⟨hv.1 b' hb', rfl⟩
  | _ => trivial
/-- a loop may lean on it that the heap is well formed -/
theorem ALoop.ofWF {b : ACode} {F : AFrame} {H : AHeap} {Q : Exit → AFrame → AHeap → Prop} (h : H.WF → ALoop P N n0 b F H Q) : ALoop P N n0 b F H Q :=
  ⟨fun ch c hc φ0 B w0 φ a w hS => (h hS.heap.wf).run ch c hc φ0 B w0 φ a w hS⟩

theorem acalls_of {ch : Nat → Bool} {f : FuncId} {fn : Func} {c : Code} {ac : ACode} {args : List AV} {H : AHeap} {K : AV → AHeap → Prop} (hf : P.funcs[f]? = some fn) (hb : fn.body = some c) (hnm : (fn.name == "runtime.NumGoroutine") = false)
    (hc : cmp P ch c = some ac.strip) (hN : fn.ntmps = N) (hargs : args.length ≤ N) (hΓ : SoundE P Γ)
    (h : H.WF → avc P Γ N H.n ac (argsF 0 args) H (retQ fun F' H' => ares P H' F' fn.results.toList fun vs => H'.WF → ∃ r'' H'', Weak H.n [(0, retV vs)] H' [(0, r'')] H'' ∧ K r'' H'')) : ACalls P f args H K := by
  refine ⟨fun as w => ?_, fun φ B w vs hH hr => ?_⟩
  · have hnm' : ¬ fn.name = "runtime.NumGoroutine" := by simpa using hnm
    simp [callFunc, hf, hnm', hb]
  · have hlen := repT_length hr
    have hwf : H.WF := fun b k hk => by
      refine ⟨hH.lt b k hk, fun e he x hx => ?_, hH.mx b k hk⟩
      obtain ⟨i, hi⟩ := List.getElem?_of_mem he
      obtain ⟨j, hj⟩ := List.getElem?_of_mem hx
      obtain ⟨v, _, hv⟩ := (hH.cells b k hk).cell i e hi j x hj
      cases x with
      | ptr b' i' j' => exact ⟨hv.1, rfl⟩
      | sl b' i' m => exact ⟨hv.1, fun h0 => by cases h0⟩
      | fn f' caps => exact fun b' hb' => ⟨hv.1 b' hb', rfl⟩
      | _ => trivial
    have hS : St N φ H.n B w φ (argsF 0 args) H { tmps := vs.toArray ++ Array.replicate (fn.ntmps - vs.toArray.size) undef, defers := [] } w := by
      refine ⟨hH, fun t v hv => ?_, by simp; omega, rfl, Kept.refl _ _, Nat.le_refl _, fun _ _ => rfl⟩
      obtain ⟨_, h1⟩ := argsF_get args 0 t v hv
      obtain ⟨u, h2, h3⟩ := hr.get _ v h1
      refine ⟨u, ?_, rep1_v h3⟩
      have ht : t < vs.length := by have := (List.getElem?_eq_some_iff.1 h2).1; simpa using this
      simp only [Nat.sub_zero] at h2
      rw [Array.getElem?_append_left (by simpa using ht)]
      simpa using h2
    refine calls_of_wp hf hb (wp_mono (avc_sound hΓ ac hc (h hwf) φ B w φ _ w hS) ?_)
    rintro e a' w' ⟨φ', F', H', hS', hQ⟩
    have fin : ares P H' F' fn.results.toList (fun vs => H'.WF → ∃ r'' H'', Weak H.n [(0, retV vs)] H' [(0, r'')] H'' ∧ K r'' H'') →
        ∃ v, (results fn a'.tmps).run P w' = .ok v w' ∧ ∃ (r : AV) (u : Value) (φ' : Nat → Place) (H' : AHeap), Ending.returned v = .returned u ∧ RepV φ' H'.n r u ∧ HRep φ' B H' w' ∧ Kept B w w' ∧ H.n ≤ H'.n ∧ (∀ b, b < H.n → φ' b = φ b) ∧ K r H' := by
      intro hares
      obtain ⟨rs, us, hOut, hT, hrun⟩ := ares_sound (a := a') hS'.heap hS'.fr _ hares
      obtain ⟨r'', H'', hw, hK⟩ := hOut hS'.heap.wf
      have hl := repT_length hT
      have hval : ∃ v, (results fn a'.tmps).run P w' = .ok v w' ∧ RepV φ' H'.n (retV rs) v := by
        have hm : (fn.results.mapM (resSem a'.tmps)).run P w' = .ok us.toArray w' := by
          rw [Array.mapM_eq_mapM_toList]
          simp only [Sem.run_map, hrun, Result.andThen_ok]
        have hres : (results fn a'.tmps).run P w' = .ok (if h : us.toArray.size = 1 then us.toArray[0] else .tuple us.toArray) w' := by
          show (fn.results.mapM (resSem a'.tmps) >>= fun vs => pure (if h : vs.size = 1 then vs[0] else .tuple vs)).run P w' = _
          rw [Sem.run_bind, hm, Result.andThen_ok, Sem.run_pure]
        rw [hres]
        match rs, us, hT with
        | [r], [u], hT => exact ⟨u, by simp, rep1_v hT.1⟩
        | [], [], _ => exact ⟨.tuple #[], by simp, [], rfl, trivial⟩
        | r1 :: r2 :: rr, u1 :: u2 :: uu, hT =>
          refine ⟨.tuple (u1 :: u2 :: uu).toArray, ?_, _, rfl, hT⟩
          simp
        | [], _ :: _, hT => exact hT.elim
        | _ :: _, [], hT => exact hT.elim
        | [_], _ :: _ :: _, hT => exact hT.2.elim
        | _ :: _ :: _, [_], hT => exact hT.2.elim
      obtain ⟨v, hv1, hv2⟩ := hval
      refine ⟨v, hv1, r'', v, ?_⟩
      obtain ⟨ρ, g1, g2, gI, g3, g4, g5⟩ := hw.ex
      have hfr := frOk_get g3 0 r'' (by simp [AFrame.get])
      have hret : retV rs = r''.ren ρ := by
        have := hfr.2
        simp [AFrame.get] at this
        exact this
      rw [hret] at hv2
      exact ⟨renP φ' ρ H'', H'', rfl, hv2.ren hfr.1, hS'.heap.weak g4 g5 gI, hS'.below, g2, fun b hb => by simp only [renP, g1 b hb]; exact hS'.agree b hb, hK⟩
    cases e with
    | normal => exact ⟨hS'.nod, fin hQ⟩
    | ret => exact ⟨hS'.nod, fin hQ⟩
    | _ => exact hQ.elim

end
end Go.Proofs.YtafenginfojcmaaGreatDoor
