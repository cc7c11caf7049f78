/- The abstract machine, part O: results, heaps that hold more, closing lemmas. No program is named here. -/
import Derived.Test.YtafenginfojcmaaGreatDoorAbsN
namespace Go.Proofs.YtafenginfojcmaaGreatDoor
open Go.RowKit

/-- what a function hands back -/
structure Out (n0 : Nat) (r : AV) (H' : AHeap) (K : AV → AHeap → Prop) : Prop where
  ex : H'.WF → ∃ r'' H'', Weak n0 [(0, r)] H' [(0, r'')] H'' ∧ K r'' H''
@[congr] theorem Out_congr {n0 : Nat} {r r' : AV} {H H' : AHeap} {K : AV → AHeap → Prop} (hr : r = r') (hH : H = H') : Out n0 r H K = Out n0 r' H' K := by rw [hr, hH]

/-- a function's end -/
def endK (P : Program) (n0 : Nat) (rs : List ResultVar) (K : AV → AHeap → Prop) : Exit → AFrame → AHeap → Prop := retQ fun F' H' => ares P H' F' rs fun vs => Out n0 (retV vs) H' K

section
variable {P : Program} {Γ : Env} {N n0 : Nat} {F : AFrame} {H : AHeap}

@[simp ↓] theorem endK_normal (rs : List ResultVar) (K : AV → AHeap → Prop) : endK P n0 rs K .normal F H = ares P H F rs fun vs => Out n0 (retV vs) H K := rfl
@[simp ↓] theorem endK_ret (rs : List ResultVar) (K : AV → AHeap → Prop) : endK P n0 rs K .ret F H = ares P H F rs fun vs => Out n0 (retV vs) H K := rfl
/-- one result -/
def oneK (K : AV → Prop) : AV → Prop
  | .tup _ => False
  | v => K v
@[congr] theorem oneK_congr {K : AV → Prop} {v v' : AV} (h : v = v') : oneK K v = oneK K v' := by rw [h]
@[simp ↓] theorem oneK_c (K : AV → Prop) (x : AC) : oneK K (.c x) = K (.c x) := rfl
@[simp ↓] theorem oneK_agg (K : AV → Prop) (xs : List AC) : oneK K (.agg xs) = K (.agg xs) := rfl
theorem isOne_K (K : AV → Prop) : (fun v => isOne v = true ∧ K v) = oneK K := by
  funext v; cases v <;> simp [isOne, oneK]
@[simp ↓] theorem ares_nil (K : List AV → Prop) : ares P H F [] K = K [] := rfl
@[simp ↓] theorem ares_tmp (t : Tmp) (r : List ResultVar) (K : List AV → Prop) : ares P H F (.tmp t :: r) K = onv (F.get t) (oneK fun v => ares P H F r fun vs => K (v :: vs)) := by
  simp only [ares, isOne_K]
@[simp ↓] theorem ares_cell (t : Tmp) (ty : TypeId) (r : List ResultVar) (K : List AV → Prop) : ares P H F (.cell t ty :: r) K = onv (tyK P ty) fun tk => onv (F.get t) (loadK H tk (oneK fun v => ares P H F r fun vs => K (v :: vs))) := by
  simp only [ares, isOne_K, p_load, opnd]
@[simp] theorem retV_1 (v : AV) : retV [v] = v := rfl
@[simp] theorem retV_2 (u v : AV) : retV [u, v] = .tup [u, v] := rfl
@[simp] theorem retV_3 (u v w : AV) : retV [u, v, w] = .tup [u, v, w] := rfl
@[simp] theorem retV_4 (u v w x : AV) : retV [u, v, w, x] = .tup [u, v, w, x] := rfl
@[simp] theorem retV_0 : retV [] = .tup [] := rfl

theorem acalls_out {ch : Nat → Bool} {f : FuncId} {fn : Func} {c : Code} {ac : ACode} {args : List AV} {K : AV → AHeap → Prop} {rs : List ResultVar} (hf : P.funcs[f]? = some fn) (hb : fn.body = some c) (hnm : (fn.name == "runtime.NumGoroutine") = false)
    (hc : cmp P ch c = some ac.strip) (hN : fn.ntmps = N) (hrs : fn.results.toList = rs) (hargs : args.length ≤ N) (hΓ : SoundE P Γ) (h : H.WF → avc P Γ N H.n ac (argsF 0 args) H (endK P H.n rs K)) : ACalls P f args H K := by
  refine acalls_of hf hb hnm hc hN hargs hΓ fun hwf => ?_
  have := h hwf
  rw [hrs]
  have e : (fun F' H' => ares P H' F' rs fun vs => Out H.n (retV vs) H' K) = fun F' H' => ares P H' F' rs fun vs => H'.WF → ∃ r'' H'', Weak H.n [(0, retV vs)] H' [(0, r'')] H'' ∧ K r'' H'' := by
    funext F' H'; congr 1; funext vs; exact propext ⟨fun h => h.ex, fun h => ⟨h⟩⟩
  rw [← e]
  exact this

/-- what a function's number tells: its code, its slots, its results -/
def fnOk (P : Program) (ch : Nat → Bool) (f : FuncId) : Option (SCode × Nat × List ResultVar) := match P.funcs[f]? with
  | some fn => match fn.body with
    | some c => if (fn.name == "runtime.NumGoroutine") = true then none else (cmp P ch c).map fun s => (s, fn.ntmps, fn.results.toList)
    | none => none
  | none => none
theorem acalls_fn {ch : Nat → Bool} {f : FuncId} {ac : ACode} {args : List AV} {K : AV → AHeap → Prop} {rs : List ResultVar} (hf : fnOk P ch f = some (ac.strip, N, rs)) (hΓ : SoundE P Γ)
    (h : args.length ≤ N ∧ (H.WF → avc P Γ N H.n ac (argsF 0 args) H (endK P H.n rs K))) : ACalls P f args H K := by
  unfold fnOk at hf
  split at hf
  · rename_i fn h1
    split at hf
    · rename_i c h2
      split at hf
      · cases hf
      · rename_i h3
        obtain ⟨s, h4, h5⟩ := Option.map_eq_some_iff.1 hf
        simp only [Prod.mk.injEq] at h5
        obtain ⟨rfl, h6, h7⟩ := h5
        exact acalls_out h1 h2 (by simpa using h3) h4 h6 h7 h.1 hΓ h.2
    · cases hf
  · cases hf

/-! ### heaps -/
@[simp] theorem push_n (k : ABlk) : (H.push k).n = H.n + 1 := rfl
@[simp] theorem set_n (i : Nat) (k : ABlk) : (H.set i k).n = H.n := rfl
@[simp] theorem kill_n (i : Nat) : (H.kill i).n = H.n := rfl
@[simp] theorem toRo_n : H.toRo.n = H.n := rfl
theorem push_b (k : ABlk) (i : Nat) : (H.push k).b i = if i = H.n then some k else H.b i := rfl
theorem set_b (i j : Nat) (k : ABlk) : (H.set i k).b j = if j = i then some k else H.b j := rfl
theorem kill_b (i j : Nat) : (H.kill i).b j = if j = i then none else H.b j := rfl
@[simp] theorem toRo_b (i : Nat) : H.toRo.b i = (H.b i).map ABlk.toRo := rfl
@[simp ↓] theorem onv_push {k : ABlk} {i : Nat} {K : ABlk → Prop} : onv ((H.push k).b i) K = if i = H.n then K k else onv (H.b i) K := by
  rw [push_b]; split <;> rfl
@[simp ↓] theorem onv_set {k : ABlk} {i j : Nat} {K : ABlk → Prop} : onv ((H.set i k).b j) K = if j = i then K k else onv (H.b j) K := by
  rw [set_b]; split <;> rfl
@[simp ↓] theorem onv_kill {i j : Nat} {K : ABlk → Prop} : onv ((H.kill i).b j) K = if j = i then False else onv (H.b j) K := by
  rw [kill_b]; split <;> rfl

/-- H' holds all that H holds -/
def Sub (H H' : AHeap) : Prop := (H.n ≤ H'.n ∧ ∀ b k, H.b b = some k → H'.b b = some k) ∧ H.I = H'.I
theorem Sub.refl (H : AHeap) : Sub H H := ⟨⟨Nat.le_refl _, fun _ _ h => h⟩, rfl⟩
theorem Sub.push {H H' : AHeap} (hwf : H.WF) (h : Sub H H') (k : ABlk) : Sub H (H'.push k) := ⟨⟨Nat.le_succ_of_le h.1.1, fun b k' hk => by
  have := (hwf b k' hk).1
  rw [push_b, if_neg (by have := h.1.1; omega)]
  exact h.1.2 b k' hk⟩, h.2⟩
theorem Sub.set {H H' : AHeap} (hwf : H.WF) (h : Sub H H') {i : Nat} (hi : H.n ≤ i) (k : ABlk) : Sub H (H'.set i k) := ⟨⟨h.1.1, fun b k' hk => by
  have := (hwf b k' hk).1
  rw [set_b, if_neg (by omega)]
  exact h.1.2 b k' hk⟩, h.2⟩
theorem Sub.kill {H H' : AHeap} (hwf : H.WF) (h : Sub H H') {i : Nat} (hi : H.n ≤ i) : Sub H (H'.kill i) := ⟨⟨h.1.1, fun b k' hk => by
  have := (hwf b k' hk).1
  rw [kill_b, if_neg (by omega)]
  exact h.1.2 b k' hk⟩, h.2⟩
theorem WF.ne {H : AHeap} (hwf : H.WF) {b : Nat} {k : ABlk} (hb : H.b b = some k) (j : Nat) : (b = H.n + j) = False := eq_false (by have := (hwf b k hb).1; omega)
theorem WF.ne0 {H : AHeap} (hwf : H.WF) {b : Nat} {k : ABlk} (hb : H.b b = some k) : (b = H.n) = False := eq_false (by have := (hwf b k hb).1; omega)

/-! ### closing -/
theorem plainC_okR {ρ : Nat → Option Nat} {n : Nat} {x : AC} (h : plainC x = true) : x.okR ρ n ∧ x.ren ρ = x := by
  cases x <;> first | exact ⟨trivial, rfl⟩ | cases h
theorem plainL_ren {ρ : Nat → Option Nat} {n : Nat} : ∀ {xs : List AC}, xs.all plainC = true → (∀ x ∈ xs, x.okR ρ n) ∧ xs.map (AC.ren ρ) = xs
  | [], _ => ⟨by simp, rfl⟩
  | x :: xs, h => by
    simp only [List.all_cons, Bool.and_eq_true] at h
    obtain ⟨h1, h2⟩ := plainL_ren (ρ := ρ) (n := n) h.2
    obtain ⟨h3, h4⟩ := plainC_okR (ρ := ρ) (n := n) h.1
    exact ⟨fun y hy => (List.mem_cons.1 hy).elim (fun e => e ▸ h3) (h1 y), by simp [h2, h4]⟩
theorem plain1_ren {ρ : Nat → Option Nat} {n : Nat} {x : AV} (h : (match x with | .c x => plainC x | .agg ys => ys.all plainC | .tup _ => false) = true) : x.ok1 ρ n ∧ x.ren1 ρ = x := by
  cases x with
  | c x => obtain ⟨h1, h2⟩ := plainC_okR (ρ := ρ) (n := n) h; exact ⟨h1, by simp [AV.ren1, h2]⟩
  | agg xs => obtain ⟨h1, h2⟩ := plainL_ren (ρ := ρ) (n := n) h; exact ⟨h1, by simp [AV.ren1, h2]⟩
  | tup _ => cases h
theorem plainV_ren {ρ : Nat → Option Nat} {n : Nat} {x : AV} (h : plainV x = true) : x.okR ρ n ∧ x.ren ρ = x := by
  cases x with
  | c x => exact plain1_ren (x := .c x) h
  | agg xs => exact plain1_ren (x := .agg xs) h
  | tup xs =>
    simp only [plainV] at h
    refine ⟨fun y hy => (plain1_ren (List.all_eq_true.1 h y hy)).1, ?_⟩
    simp only [AV.ren, AV.tup.injEq]
    conv => rhs; rw [← List.map_id xs]
    exact List.map_congr_left fun y hy => (plain1_ren (ρ := ρ) (n := n) (List.all_eq_true.1 h y hy)).2

theorem okB_self {H H' : AHeap} (hwf : H.WF) (hs : Sub H H') : ∀ b k, H.b b = some k → H'.okB some H.n b k := fun b k hk => by
  obtain ⟨h1, h2, _⟩ := hwf b k hk
  refine ⟨h1, k, hs.1.2 b k hk, rfl, rfl, rfl, rfl, ?_, h2⟩
  have : ∀ e ∈ k.els, e.map (AC.ren some) = e := fun e he => by
    conv => rhs; rw [← List.map_id e]
    exact List.map_congr_left fun x _ => by cases x <;> simp [AC.ren]
  conv => lhs; rw [← List.map_id k.els]
  exact List.map_congr_left fun e he => (this e he).symm

/-- forgetting what has been made -/
theorem Weak.drop {H H' : AHeap} {F F' : AFrame} (hwf : H.WF) (hs : Sub H H') (hF : frOk some H.n F' F) : Weak H.n F' H' F H :=
  ⟨some, fun _ _ => rfl, Nat.le_refl _, hs.2, hF, okB_self hwf hs, fun b k b' k' c _ _ _ _ h1 h2 => by cases h1; cases h2; rfl⟩

theorem Out.plain {H H' : AHeap} {r : AV} {K : AV → AHeap → Prop} (hwf : H.WF) (hs : Sub H H') (hp : plainV r = true) (hK : K r H) : Out H.n r H' K := by
  obtain ⟨h1, h2⟩ := plainV_ren (ρ := some) (n := H.n) hp
  exact ⟨fun _ => ⟨r, H, .drop hwf hs ⟨h1, by simp [AFrame.get, h2], trivial⟩, hK⟩⟩

end
end Go.Proofs.YtafenginfojcmaaGreatDoor
