/- The abstract machine, part Q: loops met at a frame, one new block, tactics. No program is named here. -/
import Derived.Test.YtljbcniphdifeaaAbsP
namespace Go.Proofs.Ytljbcniphdifeaa
open Go.RowKit

section
variable {P : Program} {Γ : Env} {N n0 : Nat} {F F' : AFrame} {H H' : AHeap}

/-- a loop's next round -/
structure Again {X : Type} (n0 : Nat) (Fi : X → AFrame) (Hi : X → AHeap) (inv : X → Prop) (μ : X → Nat) (x : X) (F' : AFrame) (H' : AHeap) : Prop where
  ex : ∃ x', inv x' ∧ μ x' < μ x ∧ Weak n0 F' H' (Fi x') (Hi x')
@[congr] theorem Again_congr {X : Type} {n0 : Nat} {Fi : X → AFrame} {Hi : X → AHeap} {inv : X → Prop} {μ : X → Nat} {x : X} {F1 F2 : AFrame} {H1 H2 : AHeap} (hF : F1 = F2) (hH : H1 = H2) : Again n0 Fi Hi inv μ x F1 H1 = Again n0 Fi Hi inv μ x F2 H2 := by rw [hF, hH]
theorem aloop_at {X : Type} (Fi : X → AFrame) (Hi : X → AHeap) (inv : X → Prop) (μ : X → Nat) (hΓ : SoundE P Γ) (body : ACode) {Q : Exit → AFrame → AHeap → Prop} (x : X) (hx : inv x) (hw : Weak n0 F H (Fi x) (Hi x))
    (step : ∀ x, inv x → avc P Γ N n0 body (Fi x) (Hi x) (thenQ Q (Again n0 Fi Hi inv μ x))) : ALoop P N n0 body F H Q :=
  .weak hw (aloop_of Fi Hi inv μ hΓ body (fun x hx => by
    have e : Again n0 Fi Hi inv μ x = fun F' H' => ∃ x', inv x' ∧ μ x' < μ x ∧ Weak n0 F' H' (Fi x') (Hi x') := by
      funext F' H'; exact propext ⟨fun h => h.ex, fun h => ⟨h⟩⟩
    rw [← e]; exact step x hx) x hx)

/-- a loop over a list's elements: the next round -/
structure AgainL {α σ : Type} (n0 : Nat) (Fi : Nat → σ → AFrame) (Hi : Nat → σ → AHeap) (inv : Nat → List α → σ → Prop) (l : List α) (j : Nat) (F' : AFrame) (H' : AHeap) : Prop where
  ex : ∃ s', inv (j + 1) (l.drop (j + 1)) s' ∧ Weak n0 F' H' (Fi (j + 1) s') (Hi (j + 1) s')
@[congr] theorem AgainL_congr {α σ : Type} {n0 : Nat} {Fi : Nat → σ → AFrame} {Hi : Nat → σ → AHeap} {inv : Nat → List α → σ → Prop} {l : List α} {j : Nat} {F1 F2 : AFrame} {H1 H2 : AHeap} (hF : F1 = F2) (hH : H1 = H2) : AgainL n0 Fi Hi inv l j F1 H1 = AgainL n0 Fi Hi inv l j F2 H2 := by rw [hF, hH]
/-- A LOOP OVER A LIST: `inv`: what is still to come, and what has been gathered -/
theorem aloop_list {α σ : Type} (l : List α) (Fi : Nat → σ → AFrame) (Hi : Nat → σ → AHeap) (inv : Nat → List α → σ → Prop) (hΓ : SoundE P Γ) (body : ACode) {Q : Exit → AFrame → AHeap → Prop} (s : σ) (hs : inv 0 l s) (hw : Weak n0 F H (Fi 0 s) (Hi 0 s))
    (step : ∀ j s (hj : j < l.length), inv j (l[j] :: l.drop (j + 1)) s → avc P Γ N n0 body (Fi j s) (Hi j s) (thenQ Q (AgainL n0 Fi Hi inv l j)))
    (fin : ∀ s, inv l.length [] s → avc P Γ N n0 body (Fi l.length s) (Hi l.length s) (thenQ Q fun _ _ => False)) : ALoop P N n0 body F H Q := by
  refine .weak hw (aloop_wp (X := Nat × σ) (fun x => Fi x.1 x.2) (fun x => Hi x.1 x.2) (fun x => x.1 ≤ l.length ∧ inv x.1 (l.drop x.1) x.2) (fun x => l.length - x.1) body (fun x hx ch c hc φ0 B w0 φ a w hS => ?_) (0, s) ⟨Nat.zero_le _, hs⟩)
  obtain ⟨j, s⟩ := x
  obtain ⟨hj, hi⟩ := hx
  rcases Nat.lt_or_ge j l.length with hlt | hge
  · rw [show l.drop (j, s).1 = l[j] :: l.drop (j + 1) from List.drop_eq_getElem_cons hlt] at hi
    refine wp_mono (avc_sound hΓ body hc (step j s hlt hi) φ0 B w0 φ a w hS) ?_
    rintro e a' w' ⟨φ', F', H', hS', hQ⟩
    refine ⟨φ', F', H', hS', ?_⟩
    cases e with
    | normal =>
      obtain ⟨s', h1, h2⟩ := hQ.ex
      exact ⟨(j + 1, s'), ⟨hlt, h1⟩, show l.length - (j + 1) < l.length - j by omega, h2⟩
    | _ => exact hQ
  · have e : j = l.length := Nat.le_antisymm hj hge
    subst e
    rw [show l.drop (l.length, s).1 = [] from List.drop_length] at hi
    refine wp_mono (avc_sound hΓ body hc (fin s hi) φ0 B w0 φ a w hS) ?_
    rintro e a' w' ⟨φ', F', H', hS', hQ⟩
    refine ⟨φ', F', H', hS', ?_⟩
    cases e with
    | normal => exact hQ.elim
    | _ => exact hQ
/-- an index below a length -/
theorem idx_lt {j n : Nat} (h : j < n) : (j : Int) < (n : Int) := by omega

@[simp] theorem ren_some (x : AC) : x.ren some = x := by cases x <;> simp [AC.ren]
@[simp] theorem ren_some' : AC.ren some = id := by funext x; simp

theorem Weak.same {F : AFrame} (hwf : H.WF) (hF : frOk some H.n F F) : Weak H.n F H F H := .drop hwf (.refl H) hF

/-- one new block that names no other -/
def pl1 (H : AHeap) (c : Option Nat) : Nat → Option Nat := fun b => if b < H.n then some b else if b = H.n then c else none
theorem ren_pl1 {x : AC} {c : Option Nat} (h : x.okR some H.n) : x.ren (pl1 H c) = x ∧ x.okR (pl1 H c) (H.n + 1) := by
  cases x with
  | ptr b i j => have h1 : b < H.n := h.1; exact ⟨by simp [AC.ren, pl1, h1], by omega, by simp [pl1, h1]⟩
  | sl b i m => have h1 : b < H.n := h.1; exact ⟨by simp [AC.ren, pl1, h1], by omega, fun h0 => by simp [pl1, h1] at h0⟩
  | fn f caps =>
    have h1 : ∀ b ∈ caps, b < H.n := fun b hb => (h b hb).1
    refine ⟨?_, fun b hb => ⟨by have := h1 b hb; omega, by simp [pl1, h1 b hb]⟩⟩
    simp only [AC.ren, AC.fn.injEq, true_and]
    conv => rhs; rw [← List.map_id caps]
    exact List.map_congr_left fun b hb => by simp [pl1, h1 b hb]
  | _ => exact ⟨rfl, trivial⟩
theorem Weak.one {k : ABlk} {c : Option Nat} (hwf : H.WF) (hs : Sub H H') (hc : match c with | some c => H.n ≤ c ∧ H'.b c = some k | none => k.els = [] ∧ k.ro = false) (hk : ∀ e ∈ k.els, ∀ x ∈ e, x.okR some H.n)
    (hF : frOk (pl1 H c) (H.n + 1) F' F) : Weak H.n F' H' F (H.push k) := by
  have key : ∀ b kb, (H.push k).b b = some kb → (b = H.n ∧ kb = k) ∨ (b < H.n ∧ H.b b = some kb) := fun b kb hb => by
    rw [push_b] at hb
    split at hb
    · rename_i e; cases hb; exact .inl ⟨e, rfl⟩
    · exact .inr ⟨(hwf b kb hb).1, hb⟩
  have kmap : ∀ els : List (List AC), (∀ e ∈ els, ∀ x ∈ e, x.okR some H.n) → els = els.map (fun e => e.map (AC.ren (pl1 H c))) := fun els he => by
    conv => lhs; rw [← List.map_id els]
    refine List.map_congr_left fun e h1 => ?_
    show e = _
    conv => lhs; rw [← List.map_id e]
    exact List.map_congr_left fun x h2 => ((ren_pl1 (c := c) (he e h1 x h2)).1).symm
  refine ⟨pl1 H c, fun b hb => by simp [pl1, hb], Nat.le_succ _, hs.2, hF, fun b kb hb => ?_, fun b k1 b' k2 d h1 h2 r1 r2 e1 e2 => ?_⟩
  · rcases key b kb hb with ⟨rfl, rfl⟩ | ⟨hlt, hb'⟩
    · refine ⟨Nat.lt_succ_self _, ?_⟩
      have : pl1 H c H.n = c := by simp [pl1]
      rw [this]
      cases c with
      | none => exact hc
      | some c => exact ⟨kb, hc.2, rfl, rfl, rfl, rfl, kmap _ hk, fun e he x hx => (ren_pl1 (hk e he x hx)).2⟩
    · refine ⟨Nat.lt_succ_of_lt hlt, ?_⟩
      have : pl1 H c b = some b := by simp [pl1, hlt]
      rw [this]
      have hw := (hwf b kb hb').2.1
      exact ⟨kb, hs.1.2 b kb hb', rfl, rfl, rfl, rfl, kmap _ hw, fun e he x hx => (ren_pl1 (hw e he x hx)).2⟩
  · have inj : ∀ b d, pl1 H c b = some d → (b < H.n ∧ d = b) ∨ (b = H.n ∧ c = some d) := fun b d h => by
      simp only [pl1] at h
      split at h
      · rename_i hl; cases h; exact .inl ⟨hl, rfl⟩
      · split at h
        · rename_i _ e; exact .inr ⟨e, h⟩
        · cases h
    rcases inj b d e1 with ⟨l1, rfl⟩ | ⟨rfl, c1⟩ <;> rcases inj b' d e2 with ⟨l2, e⟩ | ⟨e, c2⟩
    · exact e
    · rw [c2] at hc; have := hc.1; omega
    · rw [c1] at hc; have := hc.1; omega
    · exact e.symm
theorem Out.one {k : ABlk} {c : Option Nat} {r r' : AV} {K : AV → AHeap → Prop} (hwf : H.WF) (hs : Sub H H') (hc : match c with | some c => H.n ≤ c ∧ H'.b c = some k | none => k.els = [] ∧ k.ro = false) (hk : ∀ e ∈ k.els, ∀ x ∈ e, x.okR some H.n)
    (hF : frOk (pl1 H c) (H.n + 1) [(0, r)] [(0, r')]) (hK : K r' (H.push k)) : Out H.n r H' K :=
  ⟨fun _ => ⟨r', H.push k, .one hwf hs hc hk hF, hK⟩⟩
/-- nothing new, the result names old blocks -/
theorem Out.old {r : AV} {K : AV → AHeap → Prop} (hwf : H.WF) (hs : Sub H H') (hF : frOk some H.n [(0, r)] [(0, r)]) (hK : K r H) : Out H.n r H' K := ⟨fun _ => ⟨r, H, .drop hwf hs hF, hK⟩⟩

theorem plain_ok {n : Nat} {els : List (List AC)} (h : ∀ e ∈ els, e.all plainC = true) : ∀ e ∈ els, ∀ x ∈ e, x.okR some n := fun e he x hx => (plainC_okR (List.all_eq_true.1 (h e he) x hx)).1
theorem plain_map {α : Type} {n : Nat} {f : α → List AC} (h : ∀ a, (f a).all plainC = true) (l : List α) : ∀ e ∈ l.map f, ∀ x ∈ e, x.okR some n := plain_ok fun e he => by
  obtain ⟨a, _, rfl⟩ := List.mem_map.1 he; exact h a
@[simp] theorem pl1_new (H : AHeap) (c : Option Nat) : pl1 H c H.n = c := by simp [pl1]
theorem pl1_old (H : AHeap) (c : Option Nat) {b : Nat} (h : b < H.n) : pl1 H c b = some b := by simp [pl1, h]

theorem push_set (k k' : ABlk) : (H.push k).set H.n k' = H.push k' := by
  simp only [AHeap.push, AHeap.set, AHeap.mk.injEq, true_and, and_true]
  funext i; split <;> rfl
end

end Go.Proofs.Ytljbcniphdifeaa
