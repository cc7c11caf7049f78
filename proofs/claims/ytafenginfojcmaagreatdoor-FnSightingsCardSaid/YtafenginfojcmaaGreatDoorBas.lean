/- Lemmas of use for all chapters: wraps, lists that are rewritten place by place, rows of numbers. No program is named here. -/
import Derived.Test.YtafenginfojcmaaGreatDoorAbsQ
set_option maxRecDepth 8000
set_option linter.unusedSimpArgs false
namespace Go.Proofs.YtafenginfojcmaaGreatDoor
open Go Go.RowKit

theorem ne2_of {a b : Nat} (h : a < b) : (a = b + 1 + 1) = False ∧ (a = b + 1 + 1 + 1) = False ∧ (a = b + 1 + 1 + 1 + 1) = False ∧ (a = b + 1 + 1 + 1 + 1 + 1) = False ∧ (a = b + 1 + 1 + 1 + 1 + 1 + 1) = False ∧ (a = b + 1 + 1 + 1 + 1 + 1 + 1 + 1) = False ∧ (a = b + 1 + 1 + 1 + 1 + 1 + 1 + 1 + 1) = False ∧ (a = b + 1 + 1 + 1 + 1 + 1 + 1 + 1 + 1 + 1) = False ∧ (a = b + 1 + 1 + 1 + 1 + 1 + 1 + 1 + 1 + 1 + 1) = False ∧ (a = b + 1 + 1 + 1 + 1 + 1 + 1 + 1 + 1 + 1 + 1 + 1) = False ∧ (a = b + 1 + 1 + 1 + 1 + 1 + 1 + 1 + 1 + 1 + 1 + 1 + 1) = False := by refine ⟨?_, ?_, ?_, ?_, ?_, ?_, ?_, ?_, ?_, ?_, ?_⟩ <;> exact eq_false (by omega)
theorem nr2_of {a b : Nat} (h : a < b) : (b + 1 + 1 = a) = False ∧ (b + 1 + 1 + 1 = a) = False ∧ (b + 1 + 1 + 1 + 1 = a) = False ∧ (b + 1 + 1 + 1 + 1 + 1 = a) = False ∧ (b + 1 + 1 + 1 + 1 + 1 + 1 = a) = False ∧ (b + 1 + 1 + 1 + 1 + 1 + 1 + 1 = a) = False ∧ (b + 1 + 1 + 1 + 1 + 1 + 1 + 1 + 1 = a) = False ∧ (b + 1 + 1 + 1 + 1 + 1 + 1 + 1 + 1 + 1 = a) = False ∧ (b + 1 + 1 + 1 + 1 + 1 + 1 + 1 + 1 + 1 + 1 = a) = False ∧ (b + 1 + 1 + 1 + 1 + 1 + 1 + 1 + 1 + 1 + 1 + 1 = a) = False ∧ (b + 1 + 1 + 1 + 1 + 1 + 1 + 1 + 1 + 1 + 1 + 1 + 1 = a) = False := by refine ⟨?_, ?_, ?_, ?_, ?_, ?_, ?_, ?_, ?_, ?_, ?_⟩ <;> exact eq_false (by omega)
theorem ne5_of {a b : Nat} (h : a < b) : (a = b) = False ∧ (b = a) = False ∧ (a = b + 1) = False ∧ (b + 1 = a) = False ∧ (a = b + 1 + 1) = False ∧ (b + 1 + 1 = a) = False ∧ (a = b + 1 + 1 + 1) = False ∧ (b + 1 + 1 + 1 = a) = False ∧ (a = b + 1 + 1 + 1 + 1) = False ∧ (b + 1 + 1 + 1 + 1 = a) = False ∧ (a = b + 1 + 1 + 1 + 1 + 1) = False ∧ (b + 1 + 1 + 1 + 1 + 1 = a) = False := by refine ⟨?_, ?_, ?_, ?_, ?_, ?_, ?_, ?_, ?_, ?_, ?_, ?_⟩ <;> exact eq_false (by omega)
def inR (n lo hi : Int) : Bool := decide (lo ≤ n ∧ n ≤ hi)
theorem wrap_id {n : Int} (h1 : -9223372036854775808 ≤ n) (h2 : n ≤ 9223372036854775807) : IntKind.i64.wrap n = n := by
  have h0 : (2 : Int) ^ 64 = 18446744073709551616 := by decide
  have h3 : (2 : Int) ^ 63 = 9223372036854775808 := by decide
  simp only [IntKind.wrap, IntKind.bits, IntKind.signed, h0, h3, Bool.true_and]
  split
  · rename_i h; simp only [ge_iff_le, decide_eq_true_eq] at h; omega
  · rename_i h; simp only [ge_iff_le, decide_eq_true_eq] at h; omega
theorem wrap_nat {q : Nat} (h : (q : Int) ≤ 9223372036854775807) : IntKind.i64.wrap (q : Int) = (q : Int) := wrap_id (by omega) h
section
variable {P : Program} {Γ : Env} {F : AFrame} {H : AHeap} {KE : AV → AHeap → Prop} {KA : AV → Prop}
/-- two numbers -/
def intsK (K : Int → Int → Prop) : AV → AV → Prop
  | .c (.int .i64 a), .c (.int .i64 b) => K a b
  | _, _ => False
@[congr] theorem intsK_congr {K : Int → Int → Prop} {u u' v v' : AV} (h : u = u') (h' : v = v') : intsK K u v = intsK K u' v' := by rw [h, h']
@[simp ↓] theorem intsK_c (K : Int → Int → Prop) (a b : Int) : intsK K (.c (.int .i64 a)) (.c (.int .i64 b)) = K a b := rfl
theorem ints_2 (F : AFrame) (x y : Operand) (K : List Int → Prop) : (onv (opnds F [x, y]) fun vs => onv (ints vs) K) = onv (opnd F x) fun u => onv (opnd F y) fun v => intsK (fun a b => K [a, b]) u v := by
  simp only [opnds]
  cases h1 : opnd F x with
  | none => rfl
  | some u =>
    cases h2 : opnd F y with
    | none => cases u <;> rfl
    | some v =>
      cases u with
      | c u => cases v with
        | c v => cases u <;> cases v <;> first | rfl | (rename_i k a; cases k <;> rfl) | (rename_i k a k' b; cases k <;> cases k' <;> rfl) | (rename_i k a _; cases k <;> rfl) | (rename_i k a _ _; cases k <;> rfl) | (rename_i k a _ _ _; cases k <;> rfl) | skip
        | agg v => cases u <;> first | rfl | (rename_i k a; cases k <;> rfl)
        | tup v => cases u <;> first | rfl | (rename_i k a; cases k <;> rfl)
      | agg u => cases v <;> rfl
      | tup u => cases v <;> rfl
@[simp ↓] theorem s_max (x y : Operand) (ts : Array TypeId) : astep P Γ H F (.call ⟨.builtin .max, ⟨[x, y]⟩, ts⟩) KE = onv (opnd F x) fun u => onv (opnd F y) fun v => intsK (fun a b => KE (.c (.int .i64 (if b > a then b else a))) H) u v :=
  (or_f _).trans ((ints_2 F x y fun l => onv (maxI l) fun m => KE (.c (.int .i64 m)) H))
@[simp ↓] theorem s_min (x y : Operand) (ts : Array TypeId) : astep P Γ H F (.call ⟨.builtin .min, ⟨[x, y]⟩, ts⟩) KE = onv (opnd F x) fun u => onv (opnd F y) fun v => intsK (fun a b => KE (.c (.int .i64 (if b < a then b else a))) H) u v :=
  (or_f _).trans ((ints_2 F x y fun l => onv (minI l) fun m => KE (.c (.int .i64 m)) H))
@[simp ↓] theorem q_max (x y : Operand) (ts : Array TypeId) : astepQ P Γ H F (.call ⟨.builtin .max, ⟨[x, y]⟩, ts⟩) KA = onv (opnd F x) fun u => onv (opnd F y) fun v => intsK (fun a b => KA (.c (.int .i64 (if b > a then b else a)))) u v :=
  ints_2 F x y fun l => onv (maxI l) fun m => KA (.c (.int .i64 m))
@[simp ↓] theorem q_min (x y : Operand) (ts : Array TypeId) : astepQ P Γ H F (.call ⟨.builtin .min, ⟨[x, y]⟩, ts⟩) KA = onv (opnd F x) fun u => onv (opnd F y) fun v => intsK (fun a b => KA (.c (.int .i64 (if b < a then b else a)))) u v :=
  ints_2 F x y fun l => onv (minI l) fun m => KA (.c (.int .i64 m))
end
/-- two ways -/
theorem ite_i {c : Prop} [Decidable c] {A B : Prop} (h1 : c → A) (h2 : ¬ c → B) : if c then A else B := by split <;> first | exact h1 ‹_› | exact h2 ‹_›
theorem wrap_1 : IntKind.i64.wrap 1 = 1 := wrap_id (by decide) (by decide)

@[simp] theorem plainC_int (k : IntKind) (n : Int) : plainC (.int k n) = true := rfl
@[simp] theorem plainC_bool (b : Bool) : plainC (.bool b) = true := rfl
@[simp] theorem plainC_str (s : List UInt8) : plainC (.str s) = true := rfl
@[simp] theorem plainV_agg (xs : List AC) : plainV (.agg xs) = xs.all plainC := (rfl)
@[simp] theorem plainV_t2 (x y : AC) : plainV (.tup [.c x, .c y]) = (plainC x && plainC y) := by simp [plainV]
@[simp] theorem plainV_t3 (x y z : AC) : plainV (.tup [.c x, .c y, .c z]) = (plainC x && (plainC y && plainC z)) := by simp [plainV]
@[simp] theorem push_I (H : AHeap) (k : ABlk) : (H.push k).I = H.I := rfl
@[simp] theorem set_I (H : AHeap) (i : Nat) (k : ABlk) : (H.set i k).I = H.I := rfl
@[simp] theorem kill_I (H : AHeap) (i : Nat) : (H.kill i).I = H.I := rfl
@[simp] theorem toRo_I (H : AHeap) : H.toRo.I = H.I := rfl
/-! ### blocks' numbers -/
@[simp] theorem ne_up2 (n : Nat) : (n = n + 1 + 1) = False := eq_false (by omega)
@[simp] theorem ne_dn2 (n : Nat) : (n + 1 + 1 = n) = False := eq_false (by omega)
@[simp] theorem ne_up3 (n : Nat) : (n = n + 1 + 1 + 1) = False := eq_false (by omega)
@[simp] theorem ne_dn3 (n : Nat) : (n + 1 + 1 + 1 = n) = False := eq_false (by omega)
@[simp] theorem ne_up4 (n : Nat) : (n = n + 1 + 1 + 1 + 1) = False := eq_false (by omega)
@[simp] theorem ne_dn4 (n : Nat) : (n + 1 + 1 + 1 + 1 = n) = False := eq_false (by omega)
@[simp] theorem ne_up5 (n : Nat) : (n = n + 1 + 1 + 1 + 1 + 1) = False := eq_false (by omega)
@[simp] theorem ne_dn5 (n : Nat) : (n + 1 + 1 + 1 + 1 + 1 = n) = False := eq_false (by omega)
@[simp] theorem ne_up6 (n : Nat) : (n = n + 1 + 1 + 1 + 1 + 1 + 1) = False := eq_false (by omega)
@[simp] theorem ne_dn6 (n : Nat) : (n + 1 + 1 + 1 + 1 + 1 + 1 = n) = False := eq_false (by omega)
@[simp] theorem ne_up7 (n : Nat) : (n = n + 1 + 1 + 1 + 1 + 1 + 1 + 1) = False := eq_false (by omega)
@[simp] theorem ne_dn7 (n : Nat) : (n + 1 + 1 + 1 + 1 + 1 + 1 + 1 = n) = False := eq_false (by omega)
@[simp] theorem ne_up8 (n : Nat) : (n = n + 1 + 1 + 1 + 1 + 1 + 1 + 1 + 1) = False := eq_false (by omega)
@[simp] theorem ne_dn8 (n : Nat) : (n + 1 + 1 + 1 + 1 + 1 + 1 + 1 + 1 = n) = False := eq_false (by omega)
/-- a list that is rewritten place by place -/
def upd {α : Type} (new old : List α) (j : Nat) : List α := new.take j ++ old.drop j
theorem upd_0 {α : Type} (new old : List α) : upd new old 0 = old := by simp [upd]
theorem upd_all {α : Type} {new old : List α} (h : new.length = old.length) : upd new old old.length = new := by simp [upd, ← h]
theorem upd_len {α : Type} {new old : List α} (h : new.length = old.length) {j : Nat} (hj : j ≤ old.length) : (upd new old j).length = old.length := by simp [upd]; omega
theorem upd_get {α : Type} {new old : List α} (h : new.length = old.length) {j : Nat} (hj : j < old.length) : (upd new old j)[j]? = some old[j] := by
  unfold upd
  rw [List.getElem?_append_right (by simp; omega), List.getElem?_drop]
  have : j + (j - (List.take j new).length) = j := by simp; omega
  rw [this, List.getElem?_eq_getElem hj]
theorem upd_set {α : Type} {new old : List α} (h : new.length = old.length) {j : Nat} (hj : j < old.length) {x : α} (hx : new[j]? = some x) : (upd new old j).set j x = upd new old (j + 1) := by
  have hj' : j < new.length := by omega
  rw [List.getElem?_eq_getElem hj'] at hx
  cases hx
  unfold upd
  rw [List.set_append_right _ _ (by simp; omega)]
  have e : j - (List.take j new).length = 0 := by simp; omega
  rw [e, List.drop_eq_getElem_cons hj, List.set_cons_zero, List.take_succ_eq_append_getElem hj', List.append_assoc]
  rfl

/-- numbers in a row -/
def eI : Enc Int where
  n := 1
  cells x := [.int .i64 x]
  dec e := match e with
    | [.int .i64 a] => some a
    | _ => none
  dc _ := rfl
  cd e p h := by
    split at h
    · cases h; rfl
    · cases h
  len _ := rfl
@[simp] theorem eI_n : eI.n = 1 := (rfl)
@[simp] theorem eI_cells (x : Int) : eI.cells x = [.int .i64 x] := (rfl)
@[simp] theorem eI_dec (a : Int) : eI.dec [.int .i64 a] = some a := (rfl)
/-- texts in a row -/
def eT : Enc (List UInt8) where
  n := 1
  cells x := [.str x]
  dec e := match e with
    | [.str a] => some a
    | _ => none
  dc _ := rfl
  cd e p h := by
    split at h
    · cases h; rfl
    · cases h
  len _ := rfl
@[simp] theorem eT_n : eT.n = 1 := (rfl)
@[simp] theorem eT_cells (x : List UInt8) : eT.cells x = [.str x] := (rfl)
@[simp] theorem eT_dec (a : List UInt8) : eT.dec [.str a] = some a := (rfl)
/-- yes and no in a row -/
def eB : Enc Bool where
  n := 1
  cells x := [.bool x]
  dec e := match e with
    | [.bool a] => some a
    | _ => none
  dc _ := rfl
  cd e p h := by
    split at h
    · cases h; rfl
    · cases h
  len _ := rfl
@[simp] theorem eB_n : eB.n = 1 := (rfl)
@[simp] theorem eB_cells (x : Bool) : eB.cells x = [.bool x] := (rfl)
@[simp] theorem eB_dec (a : Bool) : eB.dec [.bool a] = some a := (rfl)

/-- a block whose elements have been written anew -/
def reK (k : ABlk) (els : List (List AC)) : ABlk := { k with els := els }
@[simp] theorem reK_els (k : ABlk) (els : List (List AC)) : (reK k els).els = els := rfl
@[simp] theorem reK_esz (k : ABlk) (els : List (List AC)) : (reK k els).esz = k.esz := rfl
@[simp] theorem reK_ty (k : ABlk) (els : List (List AC)) : (reK k els).ty = k.ty := rfl
@[simp] theorem reK_ro (k : ABlk) (els : List (List AC)) : (reK k els).ro = k.ro := rfl
@[simp] theorem reK_fz (k : ABlk) (els : List (List AC)) : (reK k els).fz = k.fz := rfl
theorem reK_mk (k : ABlk) (els : List (List AC)) : (⟨k.ty, k.esz, k.ro, k.fz, els⟩ : ABlk) = reK k els := rfl
theorem reK_own {k : ABlk} (h : k.ro = false) (els : List (List AC)) : (⟨k.ty, k.esz, false, k.fz, els⟩ : ABlk) = reK k els := by rw [← h]; rfl
theorem reK_full {k : ABlk} {m : Nat} (h1 : k.ro = false) (h2 : k.esz = m) (els : List (List AC)) : (⟨k.ty, m, false, k.fz, els⟩ : ABlk) = reK k els := by rw [← h1, ← h2]; rfl
@[simp] theorem reK_reK (k : ABlk) (e e' : List (List AC)) : reK (reK k e) e' = reK k e' := rfl
theorem reK_self (k : ABlk) : reK k k.els = k := rfl
@[simp] theorem set_set (H : AHeap) (b : Nat) (k k' : ABlk) : (H.set b k).set b k' = H.set b k' := by
  simp only [AHeap.set, AHeap.mk.injEq, true_and, and_true]
  funext i; split <;> rfl
@[simp] theorem push_set' (H : AHeap) (k k' : ABlk) : (H.push k).set H.n k' = H.push k' := push_set k k'
theorem set_self {H : AHeap} {b : Nat} {k : ABlk} (h : H.b b = some k) : H.set b k = H := by
  cases H
  simp only [AHeap.set, AHeap.mk.injEq, true_and, and_true]
  funext i; split
  · rename_i e; subst e; exact h.symm
  · rfl
theorem WF.set {H : AHeap} (hwf : H.WF) {b : Nat} {k0 k : ABlk} (hb : H.b b = some k0) (hk : ∀ e ∈ k.els, ∀ x ∈ e, x.okR some H.n) (hl : k.els.length ≤ 9223372036854775807) : (H.set b k).WF := fun i k' h => by
  rw [set_b] at h
  split at h
  · rename_i e; subst e; cases h
    exact ⟨(hwf i k0 hb).1, hk, hl⟩
  · exact hwf i k' h
/-- forgetting what has been made since some heap that itself holds new blocks -/
theorem Weak.since {n0 : Nat} {H H' : AHeap} {F F' : AFrame} (hn : n0 ≤ H.n) (hwf : H.WF) (hs : Sub H H') (hF : frOk some H.n F' F) : Weak n0 F' H' F H :=
  ⟨some, fun _ _ => rfl, hn, hs.2, hF, okB_self hwf hs, fun b k b' k' c _ _ _ _ h1 h2 => by cases h1; cases h2; rfl⟩
theorem WF.push {H : AHeap} (hwf : H.WF) {k : ABlk} (hk : ∀ e ∈ k.els, ∀ x ∈ e, x.okR some H.n) (hl : k.els.length ≤ 9223372036854775807) : (H.push k).WF := fun b k' h => by
  have mono : ∀ x : AC, x.okR some H.n → x.okR some (H.n + 1) := fun x hx => by
    cases x with
    | ptr b i j => exact ⟨Nat.lt_succ_of_lt hx.1, hx.2⟩
    | sl b i m => exact ⟨Nat.lt_succ_of_lt hx.1, hx.2⟩
    | fn f caps => exact fun b hb => ⟨Nat.lt_succ_of_lt (hx b hb).1, (hx b hb).2⟩
    | _ => trivial
  rw [push_b] at h
  split at h
  · rename_i e; subst e; cases h
    exact ⟨Nat.lt_succ_self _, fun e he x hx => mono x (hk e he x hx), hl⟩
  · obtain ⟨h1, h2, h3⟩ := hwf b k' h
    exact ⟨Nat.lt_succ_of_lt h1, fun e he x hx => mono x (h2 e he x hx), h3⟩
/-- all that has been made stays -/
theorem Out.whole {n0 : Nat} {H' : AHeap} {r : AV} {K : AV → AHeap → Prop} (hn : n0 ≤ H'.n) (hF : frOk some H'.n [(0, r)] [(0, r)]) (hK : H'.WF → K r H') : Out n0 r H' K := ⟨fun hw => ⟨r, H', .since hn hw (.refl _) hF, hK hw⟩⟩
/-- a loop over heaps of a kind -/
structure AgainW {X : Type} (n0 : Nat) (Fi : X → AFrame) (Hi : X → AHeap) (inv : X → Prop) (μ : X → Nat) (x : X) (F' : AFrame) (H' : AHeap) : Prop where
  ex : H'.WF → ∃ x', inv x' ∧ μ x' < μ x ∧ Weak n0 F' H' (Fi x') (Hi x')
@[congr] theorem AgainW_congr {X : Type} {n0 : Nat} {Fi : X → AFrame} {Hi : X → AHeap} {inv : X → Prop} {μ : X → Nat} {x : X} {F1 F2 : AFrame} {H1 H2 : AHeap} (hF : F1 = F2) (hH : H1 = H2) : AgainW n0 Fi Hi inv μ x F1 H1 = AgainW n0 Fi Hi inv μ x F2 H2 := by rw [hF, hH]
theorem aloop_heap {P : Program} {Γ : Env} {N n0 : Nat} {F : AFrame} {H : AHeap} {X : Type} (Fi : X → AFrame) (Hi : X → AHeap) (inv : X → Prop) (μ : X → Nat) (hΓ : SoundE P Γ) (body : ACode) {Q : Exit → AFrame → AHeap → Prop} (x : X) (hx : inv x) (hw : H.WF → Weak n0 F H (Fi x) (Hi x))
    (step : ∀ x, inv x → (Hi x).WF → avc P Γ N n0 body (Fi x) (Hi x) (thenQ Q (AgainW n0 Fi Hi inv μ x))) : ALoop P N n0 body F H Q :=
  .ofWF fun hw0 => .weak (hw hw0) (aloop_wp Fi Hi inv μ body (fun x hx ch c hc φ0 B w0 φ a w hS => by
    refine wp_mono (avc_sound hΓ body hc (step x hx hS.heap.wf) φ0 B w0 φ a w hS) ?_
    rintro e a' w' ⟨φ', F', H', hS', hQ⟩
    refine ⟨φ', F', H', hS', ?_⟩
    cases e with
    | normal => exact hQ.ex hS'.heap.wf
    | _ => exact hQ) x hx)
/-- a stop for simp: what lies behind it stays as it is -/
def UnitOf (_ : Prop) : Type := Unit
def Stop (X : Prop) (_ : UnitOf X) : Prop := X
theorem Stop.mk {X : Prop} {u : UnitOf X} (h : X) : Stop X u := h
/-- a row that a function has made -/
def rowK {α : Type} (E : Enc α) (t : TypeId) (l : List α) : ABlk := ⟨t, E.n, false, false, l.map E.cells⟩
@[simp] theorem rowK_els {α : Type} (E : Enc α) (t : TypeId) (l : List α) : (rowK E t l).els = l.map E.cells := rfl
@[simp] theorem rowK_esz {α : Type} (E : Enc α) (t : TypeId) (l : List α) : (rowK E t l).esz = E.n := rfl
@[simp] theorem rowK_ty {α : Type} (E : Enc α) (t : TypeId) (l : List α) : (rowK E t l).ty = t := rfl
@[simp] theorem rowK_ro {α : Type} (E : Enc α) (t : TypeId) (l : List α) : (rowK E t l).ro = false := rfl
@[simp] theorem rowK_fz {α : Type} (E : Enc α) (t : TypeId) (l : List α) : (rowK E t l).fz = false := rfl

/-- the element before -/
def prevOf {α : Type} (ps : List α) : Nat → Option α
  | 0 => none
  | i + 1 => ps[i]?
@[simp] theorem prevOf_0 {α : Type} (ps : List α) : prevOf ps 0 = none := rfl
theorem prevOf_succ {α : Type} {ps : List α} {j : Nat} (h : j < ps.length) : prevOf ps (j + 1) = some ps[j] := by simp [prevOf, h]
/-- one number in a box -/
def boxI (k : ABlk) : Option Int := match k.els with
  | [[.int .i64 n]] => some n
  | _ => none
theorem boxI_els {k : ABlk} {n : Int} (h : boxI k = some n) : k.els = [[.int .i64 n]] := by
  unfold boxI at h
  split at h
  · rename_i m e; cases h; exact e
  · cases h
/-- the first place of a kind, or -1 -/
def ixOf {α : Type} (p : α → Bool) : List α → Nat → Int
  | [], _ => -1
  | x :: r, j => if p x = true then j else ixOf p r (j + 1)
theorem ixOf_at {α : Type} (p : α → Bool) : ∀ (l : List α) (j : Nat), ixOf p l j = -1 ∧ (∀ x ∈ l, p x = false) ∨ ∃ (m : Nat) (h : m < l.length), ixOf p l j = ((j + m : Nat) : Int) ∧ p l[m] = true ∧ ∀ (i : Nat) (hi : i < m), p (l[i]'(by omega)) = false
  | [], j => .inl ⟨rfl, by simp⟩
  | x :: r, j => by
    by_cases hx : p x = true
    · exact .inr ⟨0, by simp, by simp [ixOf, hx], by simpa using hx, by intro i hi; omega⟩
    · rcases ixOf_at p r (j + 1) with ⟨h, ha⟩ | ⟨m, hm, h1, h2, h3⟩
      · exact .inl ⟨by simp [ixOf, hx, h], by simpa [hx] using ha⟩
      · refine .inr ⟨m + 1, by simp; omega, by simp only [ixOf, hx, h1]; simp; omega, by simpa using h2, fun i hi => ?_⟩
        cases i with
        | zero => simpa using hx
        | succ i => simpa using h3 i (by omega)
@[simp] theorem decL_nil {α : Type} (E : Enc α) : E.decL [] = some [] := rfl
@[simp] theorem decL_single {α : Type} (E : Enc α) (e : List AC) : E.decL [e] = (E.dec e).map fun x => [x] := by
  simp only [Enc.decL]; cases E.dec e <;> rfl
/-- a list in memory is empty, or has a first element -/
theorem nil_or {α : Type} {E : Enc α} {H : AHeap} {b i : Nat} {k : ABlk} {l : List α} (h : E.At H b i k l) : (l = [] ∧ i ≤ k.els.length) ∨ ∃ (h0 : 0 < l.length), k.els[i]? = some (E.cells l[0]) ∧ (l = []) = False ∧ (0 : Int) < (l.length : Int) := by
  rcases Nat.eq_zero_or_pos l.length with h0 | h0
  · exact .inl ⟨List.eq_nil_of_length_eq_zero h0, by have := h.len; omega⟩
  · exact .inr ⟨h0, by have := h.get h0; simpa using this, by simp; intro e; simp [e] at h0, by omega⟩
theorem ixOf_find {α : Type} (p : α → Bool) (l : List α) : (ixOf p l 0 = -1 ∧ l.find? p = none) ∨ ∃ (m : Nat) (h : m < l.length), ixOf p l 0 = (m : Int) ∧ l.find? p = some l[m] ∧ p l[m] = true ∧ ∀ (i : Nat) (hi : i < m), p (l[i]'(by omega)) = false := by
  rcases ixOf_at p l 0 with ⟨h, ha⟩ | ⟨m, hm, h1, h2, h3⟩
  · exact .inl ⟨h, List.find?_eq_none.2 fun x hx => by simp [ha x hx]⟩
  · refine .inr ⟨m, hm, by simpa using h1, ?_, h2, h3⟩
    rw [List.find?_eq_some_iff_getElem]
    exact ⟨h2, m, hm, rfl, fun j hj => by simp [h3 j hj]⟩
/-- what is kept of a list, in a new one -/
def accM {α β : Type} (p : α → Bool) (f : α → β) : List α → List β → List β
  | [], o => o
  | x :: r, o => if p x = true then accM p f r (o ++ [f x]) else accM p f r o
theorem accM_eq {α β : Type} (p : α → Bool) (f : α → β) : ∀ (l : List α) (o : List β), accM p f l o = o ++ (l.filter p).map f
  | [], o => by simp [accM]
  | x :: r, o => by
    simp only [accM]
    split
    · rename_i h; rw [accM_eq p f r, List.filter_cons_of_pos h]; simp
    · rename_i h; rw [accM_eq p f r, List.filter_cons_of_neg h]
theorem accM_len {α β : Type} (p : α → Bool) (f : α → β) (l : List α) : (accM p f l []).length ≤ l.length := by
  rw [accM_eq]; simpa using List.length_filter_le p l
@[simp] theorem decL_one {α : Type} (E : Enc α) (l : List α) (e : List AC) : E.decL (l.map E.cells ++ [e]) = (E.dec e).map fun x => l ++ [x] := by
  induction l with
  | nil => simp
  | cons a l ih => simp [Enc.decL, E.dc, ih]; cases E.dec e <;> simp
@[simp] theorem take_map_one {α β : Type} (f : α → β) (l : List α) (x : β) : (l.map f ++ [x]).take (l.length + 1) = l.map f ++ [x] := by
  rw [List.take_of_length_le]; simp
@[simp] theorem reK_row {α : Type} (E : Enc α) (t : TypeId) (l l' : List α) : reK (rowK E t l) (l'.map E.cells) = rowK E t l' := rfl
/-- numbers one after the other -/
def rangeI (lo : Int) (n : Nat) : List Int := (List.range n).map fun (i : Nat) => lo + (i : Int)
@[simp] theorem rangeI_len (lo : Int) (n : Nat) : (rangeI lo n).length = n := by simp [rangeI]
@[simp] theorem rangeI_get (lo : Int) (n : Nat) (j : Nat) (h : j < (rangeI lo n).length) : (rangeI lo n)[j] = lo + (j : Int) := by simp [rangeI]
theorem rangeI_add (lo : Int) (m n : Nat) : rangeI lo (m + n) = rangeI lo m ++ rangeI (lo + m) n := by
  simp only [rangeI, List.range_add, List.map_append, List.map_map]
  congr 1
  apply List.map_congr_left
  intro a _
  simp only [Function.comp]
  omega
theorem mem_rangeI {lo x : Int} {n : Nat} : x ∈ rangeI lo n ↔ lo ≤ x ∧ x < lo + n := by
  simp only [rangeI, List.mem_map, List.mem_range]
  constructor
  · rintro ⟨i, h, rfl⟩; omega
  · intro h; exact ⟨(x - lo).toNat, by omega, by omega⟩

/-! ### loops over a list with more than one gathered value -/
section
variable {P : Program} {Γ : Env} {N n0 : Nat} {F F' : AFrame} {H H' : AHeap}
structure AgainL2 {α σ τ : Type} (n0 : Nat) (Fi : Nat → σ → τ → AFrame) (Hi : Nat → σ → τ → AHeap) (inv : Nat → List α → σ → τ → Prop) (l : List α) (j : Nat) (F' : AFrame) (H' : AHeap) : Prop where
  ex : ∃ s' t', inv (j + 1) (l.drop (j + 1)) s' t' ∧ Weak n0 F' H' (Fi (j + 1) s' t') (Hi (j + 1) s' t')
@[congr] theorem AgainL2_congr {α σ τ : Type} {n0 : Nat} {Fi : Nat → σ → τ → AFrame} {Hi : Nat → σ → τ → AHeap} {inv : Nat → List α → σ → τ → Prop} {l : List α} {j : Nat} {F1 F2 : AFrame} {H1 H2 : AHeap} (hF : F1 = F2) (hH : H1 = H2) : AgainL2 n0 Fi Hi inv l j F1 H1 = AgainL2 n0 Fi Hi inv l j F2 H2 := by rw [hF, hH]
theorem aloop_list2 {α σ τ : Type} (l : List α) (Fi : Nat → σ → τ → AFrame) (Hi : Nat → σ → τ → AHeap) (inv : Nat → List α → σ → τ → Prop) (hΓ : SoundE P Γ) (body : ACode) {Q : Exit → AFrame → AHeap → Prop} (s : σ) (t : τ) (hs : inv 0 l s t) (hw : Weak n0 F H (Fi 0 s t) (Hi 0 s t))
    (step : ∀ j s t (hj : j < l.length), inv j (l[j] :: l.drop (j + 1)) s t → avc P Γ N n0 body (Fi j s t) (Hi j s t) (thenQ Q (AgainL2 n0 Fi Hi inv l j)))
    (fin : ∀ s t, inv l.length [] s t → avc P Γ N n0 body (Fi l.length s t) (Hi l.length s t) (thenQ Q fun _ _ => False)) : ALoop P N n0 body F H Q := by
  refine aloop_list (σ := σ × τ) l (fun j x => Fi j x.1 x.2) (fun j x => Hi j x.1 x.2) (fun j l x => inv j l x.1 x.2) hΓ body (s, t) hs hw (fun j x hj hi => ?_) (fun x hi => fin x.1 x.2 hi)
  have e : AgainL n0 (fun j (x : σ × τ) => Fi j x.1 x.2) (fun j x => Hi j x.1 x.2) (fun j l x => inv j l x.1 x.2) l j = AgainL2 n0 Fi Hi inv l j := by
    funext F' H'
    exact propext ⟨fun h => by obtain ⟨x, h1, h2⟩ := h.ex; exact ⟨x.1, x.2, h1, h2⟩, fun h => by obtain ⟨s', t', h1, h2⟩ := h.ex; exact ⟨(s', t'), h1, h2⟩⟩
  rw [e]
  exact step j x.1 x.2 hj hi
structure AgainL3 {α σ τ υ : Type} (n0 : Nat) (Fi : Nat → σ → τ → υ → AFrame) (Hi : Nat → σ → τ → υ → AHeap) (inv : Nat → List α → σ → τ → υ → Prop) (l : List α) (j : Nat) (F' : AFrame) (H' : AHeap) : Prop where
  ex : ∃ s' t' u', inv (j + 1) (l.drop (j + 1)) s' t' u' ∧ Weak n0 F' H' (Fi (j + 1) s' t' u') (Hi (j + 1) s' t' u')
@[congr] theorem AgainL3_congr {α σ τ υ : Type} {n0 : Nat} {Fi : Nat → σ → τ → υ → AFrame} {Hi : Nat → σ → τ → υ → AHeap} {inv : Nat → List α → σ → τ → υ → Prop} {l : List α} {j : Nat} {F1 F2 : AFrame} {H1 H2 : AHeap} (hF : F1 = F2) (hH : H1 = H2) : AgainL3 n0 Fi Hi inv l j F1 H1 = AgainL3 n0 Fi Hi inv l j F2 H2 := by rw [hF, hH]
theorem aloop_list3 {α σ τ υ : Type} (l : List α) (Fi : Nat → σ → τ → υ → AFrame) (Hi : Nat → σ → τ → υ → AHeap) (inv : Nat → List α → σ → τ → υ → Prop) (hΓ : SoundE P Γ) (body : ACode) {Q : Exit → AFrame → AHeap → Prop} (s : σ) (t : τ) (u : υ) (hs : inv 0 l s t u) (hw : Weak n0 F H (Fi 0 s t u) (Hi 0 s t u))
    (step : ∀ j s t u (hj : j < l.length), inv j (l[j] :: l.drop (j + 1)) s t u → avc P Γ N n0 body (Fi j s t u) (Hi j s t u) (thenQ Q (AgainL3 n0 Fi Hi inv l j)))
    (fin : ∀ s t u, inv l.length [] s t u → avc P Γ N n0 body (Fi l.length s t u) (Hi l.length s t u) (thenQ Q fun _ _ => False)) : ALoop P N n0 body F H Q := by
  refine aloop_list (σ := σ × τ × υ) l (fun j x => Fi j x.1 x.2.1 x.2.2) (fun j x => Hi j x.1 x.2.1 x.2.2) (fun j l x => inv j l x.1 x.2.1 x.2.2) hΓ body (s, t, u) hs hw (fun j x hj hi => ?_) (fun x hi => fin x.1 x.2.1 x.2.2 hi)
  have e : AgainL n0 (fun j (x : σ × τ × υ) => Fi j x.1 x.2.1 x.2.2) (fun j x => Hi j x.1 x.2.1 x.2.2) (fun j l x => inv j l x.1 x.2.1 x.2.2) l j = AgainL3 n0 Fi Hi inv l j := by
    funext F' H'
    exact propext ⟨fun h => by obtain ⟨x, h1, h2⟩ := h.ex; exact ⟨x.1, x.2.1, x.2.2, h1, h2⟩, fun h => by obtain ⟨s', t', u', h1, h2⟩ := h.ex; exact ⟨(s', t', u'), h1, h2⟩⟩
  rw [e]
  exact step j x.1 x.2.1 x.2.2 hj hi
structure AgainL4 {α σ τ υ ω : Type} (n0 : Nat) (Fi : Nat → σ → τ → υ → ω → AFrame) (Hi : Nat → σ → τ → υ → ω → AHeap) (inv : Nat → List α → σ → τ → υ → ω → Prop) (l : List α) (j : Nat) (F' : AFrame) (H' : AHeap) : Prop where
  ex : ∃ s' t' u' w', inv (j + 1) (l.drop (j + 1)) s' t' u' w' ∧ Weak n0 F' H' (Fi (j + 1) s' t' u' w') (Hi (j + 1) s' t' u' w')
@[congr] theorem AgainL4_congr {α σ τ υ ω : Type} {n0 : Nat} {Fi : Nat → σ → τ → υ → ω → AFrame} {Hi : Nat → σ → τ → υ → ω → AHeap} {inv : Nat → List α → σ → τ → υ → ω → Prop} {l : List α} {j : Nat} {F1 F2 : AFrame} {H1 H2 : AHeap} (hF : F1 = F2) (hH : H1 = H2) : AgainL4 n0 Fi Hi inv l j F1 H1 = AgainL4 n0 Fi Hi inv l j F2 H2 := by rw [hF, hH]
theorem aloop_list4 {α σ τ υ ω : Type} (l : List α) (Fi : Nat → σ → τ → υ → ω → AFrame) (Hi : Nat → σ → τ → υ → ω → AHeap) (inv : Nat → List α → σ → τ → υ → ω → Prop) (hΓ : SoundE P Γ) (body : ACode) {Q : Exit → AFrame → AHeap → Prop} (s : σ) (t : τ) (u : υ) (w : ω) (hs : inv 0 l s t u w) (hw : Weak n0 F H (Fi 0 s t u w) (Hi 0 s t u w))
    (step : ∀ j s t u w (hj : j < l.length), inv j (l[j] :: l.drop (j + 1)) s t u w → avc P Γ N n0 body (Fi j s t u w) (Hi j s t u w) (thenQ Q (AgainL4 n0 Fi Hi inv l j)))
    (fin : ∀ s t u w, inv l.length [] s t u w → avc P Γ N n0 body (Fi l.length s t u w) (Hi l.length s t u w) (thenQ Q fun _ _ => False)) : ALoop P N n0 body F H Q := by
  refine aloop_list (σ := σ × τ × υ × ω) l (fun j x => Fi j x.1 x.2.1 x.2.2.1 x.2.2.2) (fun j x => Hi j x.1 x.2.1 x.2.2.1 x.2.2.2) (fun j l x => inv j l x.1 x.2.1 x.2.2.1 x.2.2.2) hΓ body (s, t, u, w) hs hw (fun j x hj hi => ?_) (fun x hi => fin x.1 x.2.1 x.2.2.1 x.2.2.2 hi)
  have e : AgainL n0 (fun j (x : σ × τ × υ × ω) => Fi j x.1 x.2.1 x.2.2.1 x.2.2.2) (fun j x => Hi j x.1 x.2.1 x.2.2.1 x.2.2.2) (fun j l x => inv j l x.1 x.2.1 x.2.2.1 x.2.2.2) l j = AgainL4 n0 Fi Hi inv l j := by
    funext F' H'
    exact propext ⟨fun h => by obtain ⟨x, h1, h2⟩ := h.ex; exact ⟨x.1, x.2.1, x.2.2.1, x.2.2.2, h1, h2⟩, fun h => by obtain ⟨s', t', u', w', h1, h2⟩ := h.ex; exact ⟨(s', t', u', w'), h1, h2⟩⟩
  rw [e]
  exact step j x.1 x.2.1 x.2.2.1 x.2.2.2 hj hi
end

end Go.Proofs.YtafenginfojcmaaGreatDoor
