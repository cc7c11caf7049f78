/- The abstract machine, part A: abstract cells, blocks and heaps; how they stand for a world of the model. No program is named here. -/
import Derived.WalkKit
import Derived.Deep.Quiet
import Derived.Deep.MidRow
import Derived.Maps.AppendAt
namespace Go.Proofs.YtafenginfojcmaaGreatDoor
open Go.RowKit

/-- one abstract cell: addresses are block, element, cell in the element -/
inductive AC where
  | int (k : IntKind) (n : Int)
  | bool (b : Bool)
  | str (s : List UInt8)
  | ptr (b i j : Nat)
  | sl (b i n : Nat)
  | nils
  | fn (f : FuncId) (caps : List Nat)
  deriving Inhabited

inductive AV where
  | c (x : AC)
  | agg (xs : List AC)
  | tup (xs : List AV)
  deriving Inhabited

/-- where a block of the abstract heap lies -/
structure Place where
  blk : Nat
  off : Nat
  esz : Nat
  cap : Nat

def Place.adr (p : Place) (i j : Nat) : Addr := ⟨p.blk, p.off + i * p.esz + j, none⟩

structure ABlk where
  ty : TypeId
  esz : Nat
  ro : Bool
  fz : Bool
  els : List (List AC)

/-- I: what stands of the world all the while (package-level tables) -/
structure AHeap where
  n : Nat
  b : Nat → Option ABlk
  I : World → Prop

def AHeap.push (H : AHeap) (k : ABlk) : AHeap := ⟨H.n + 1, fun i => if i = H.n then some k else H.b i, H.I⟩
def AHeap.set (H : AHeap) (i : Nat) (k : ABlk) : AHeap := ⟨H.n, fun j => if j = i then some k else H.b j, H.I⟩
def AHeap.kill (H : AHeap) (i : Nat) : AHeap := ⟨H.n, fun j => if j = i then none else H.b j, H.I⟩
def ABlk.toRo (k : ABlk) : ABlk := { k with ro := true }
def AHeap.toRo (H : AHeap) : AHeap := ⟨H.n, fun j => (H.b j).map ABlk.toRo, H.I⟩

def ptrOf (p : Place) : Value := .pointer (some (p.adr 0 0))

def RepC (φ : Nat → Place) (n : Nat) : AC → Value → Prop
  | .int k m, v => v = .int k m
  | .bool b, v => v = .bool b
  | .str s, v => v = .string ⟨s.toArray⟩
  | .ptr b i j, v => b < n ∧ v = .pointer (some ((φ b).adr i j))
  | .sl b i m, v => b < n ∧ ∃ a cap, v = .slice a m cap ∧ m ≤ cap ∧ i + cap ≤ (φ b).cap ∧ (0 < cap → a = some ((φ b).adr i 0))
  | .nils, v => ∃ a, v = .slice a 0 0
  | .fn f caps, v => (∀ b ∈ caps, b < n) ∧ v = .func (.func f) #[] (caps.map fun b => ptrOf (φ b)).toArray

def RepL (φ : Nat → Place) (n : Nat) : List AC → List Value → Prop
  | [], [] => True
  | x :: xs, v :: vs => RepC φ n x v ∧ RepL φ n xs vs
  | _, _ => False

/-- a value that is no tuple -/
def Rep1 (φ : Nat → Place) (n : Nat) : AV → Value → Prop
  | .c x, v => RepC φ n x v
  | .agg xs, v => ∃ vs : List Value, v = .agg vs.toArray ∧ RepL φ n xs vs
  | .tup _, _ => False

def RepT (φ : Nat → Place) (n : Nat) : List AV → List Value → Prop
  | [], [] => True
  | x :: xs, v :: vs => Rep1 φ n x v ∧ RepT φ n xs vs
  | _, _ => False

def RepV (φ : Nat → Place) (n : Nat) : AV → Value → Prop
  | .tup xs, v => ∃ vs : List Value, v = .tuple vs.toArray ∧ RepT φ n xs vs
  | x, v => Rep1 φ n x v

/-- the cells of one block -/
structure BCells (φ : Nat → Place) (n : Nat) (p : Place) (k : ABlk) (w : World) : Prop where
  esz : p.esz = k.esz
  cap : k.els.length ≤ p.cap
  len : ∀ (i : Nat) (e : List AC), k.els[i]? = some e → e.length = k.esz
  cell : ∀ (i : Nat) (e : List AC), k.els[i]? = some e → ∀ (j : Nat) (x : AC), e[j]? = some x → ∃ v, w.cell? (p.adr i j) = some v ∧ RepC φ n x v

/-- what must stand: the blocks below a number, and some others (rows that have been made ahead of their turn) -/
structure Bd where
  B : Nat
  T : Nat → Prop
structure Kept (B : Bd) (w w' : World) : Prop where
  below : Below B.B w w'
  keep : ∀ c, B.T c → w'.heap[c]? = w.heap[c]?
theorem Kept.refl (B : Bd) (w : World) : Kept B w w := ⟨.refl _ _, fun _ _ => rfl⟩
theorem Kept.trans {B : Bd} {a b c : World} (h : Kept B a b) (k : Kept B b c) : Kept B a c := ⟨h.below.trans k.below, fun i hi => (k.keep i hi).trans (h.keep i hi)⟩
theorem Kept.of_below {B : Bd} {w w' : World} (h1 : B.B ≤ w.heap.size) (h2 : ∀ c, B.T c → c < w.heap.size) (h : Below w.heap.size w w') : Kept B w w' := ⟨h.mono h1, fun c hc => h.block c (h2 c hc)⟩

structure BOwn (B : Bd) (p : Place) (k : ABlk) (w : World) : Prop where
  base : B.B ≤ p.blk
  out : ¬ B.T p.blk
  off : p.off = 0
  cap : p.cap ≤ maxLen
  row : ∃ cs fz, w.heap[p.blk]? = some (.cells cs k.ty fz) ∧ cs.size = p.cap * p.esz ∧ (k.fz = false → fz = (0, 0)) ∧ ∀ o, o < cs.size → ¬ (fz.1 ≤ o ∧ o < fz.2)

structure HRep (φ : Nat → Place) (B : Bd) (H : AHeap) (w : World) : Prop where
  size : B.B ≤ w.heap.size
  tlt : ∀ c, B.T c → c < w.heap.size
  lt : ∀ b k, H.b b = some k → b < H.n
  cells : ∀ b k, H.b b = some k → BCells φ H.n (φ b) k w
  own : ∀ b k, H.b b = some k → k.ro = false → 0 < (φ b).cap → BOwn B (φ b) k w
  ro : ∀ b k, H.b b = some k → k.ro = true → 0 < (φ b).cap → (φ b).blk < B.B
  apart : ∀ b k b' k', H.b b = some k → H.b b' = some k' → k.ro = false → k'.ro = false → 0 < (φ b).cap → 0 < (φ b').cap → (φ b).blk = (φ b').blk → b = b'
  mx : ∀ b k, H.b b = some k → k.els.length ≤ 9223372036854775807
  inv : ∀ w', Below B.B w w' → H.I w'

theorem RepC.mono {φ φ' : Nat → Place} {n n' : Nat} (ha : ∀ b, b < n → φ' b = φ b) (hn : n ≤ n') {x : AC} {v : Value} (h : RepC φ n x v) : RepC φ' n' x v := by
  cases x with
  | int k m => exact h
  | bool b => exact h
  | str s => exact h
  | ptr b i j => obtain ⟨h1, h2⟩ := h; exact ⟨by omega, by rw [ha b h1]; exact h2⟩
  | sl b i m => obtain ⟨h1, h2⟩ := h; exact ⟨by omega, by rw [ha b h1]; exact h2⟩
  | nils => exact h
  | fn f caps =>
    obtain ⟨h1, h2⟩ := h
    refine ⟨fun b hb => by have := h1 b hb; omega, ?_⟩
    rw [h2]
    congr 2
    exact List.map_congr_left fun b hb => by rw [ha b (h1 b hb)]

theorem RepL.mono {φ φ' : Nat → Place} {n n' : Nat} (ha : ∀ b, b < n → φ' b = φ b) (hn : n ≤ n') : ∀ {xs : List AC} {vs : List Value}, RepL φ n xs vs → RepL φ' n' xs vs
  | [], [], _ => trivial
  | _ :: _, _ :: _, h => ⟨RepC.mono ha hn h.1, RepL.mono ha hn h.2⟩
  | [], _ :: _, h => h.elim
  | _ :: _, [], h => h.elim

theorem Rep1.mono {φ φ' : Nat → Place} {n n' : Nat} (ha : ∀ b, b < n → φ' b = φ b) (hn : n ≤ n') {x : AV} {v : Value} (h : Rep1 φ n x v) : Rep1 φ' n' x v := by
  cases x with
  | c x => exact RepC.mono ha hn h
  | agg xs => obtain ⟨vs, h1, h2⟩ := h; exact ⟨vs, h1, RepL.mono ha hn h2⟩
  | tup xs => exact h.elim

theorem RepT.mono {φ φ' : Nat → Place} {n n' : Nat} (ha : ∀ b, b < n → φ' b = φ b) (hn : n ≤ n') : ∀ {xs : List AV} {vs : List Value}, RepT φ n xs vs → RepT φ' n' xs vs
  | [], [], _ => trivial
  | _ :: _, _ :: _, h => ⟨Rep1.mono ha hn h.1, RepT.mono ha hn h.2⟩
  | [], _ :: _, h => h.elim
  | _ :: _, [], h => h.elim

theorem RepV.mono {φ φ' : Nat → Place} {n n' : Nat} (ha : ∀ b, b < n → φ' b = φ b) (hn : n ≤ n') {x : AV} {v : Value} (h : RepV φ n x v) : RepV φ' n' x v := by
  cases x with
  | c x => exact RepC.mono ha hn h
  | agg xs => exact Rep1.mono (x := .agg xs) ha hn h
  | tup xs => obtain ⟨vs, h1, h2⟩ := h; exact ⟨vs, h1, RepT.mono ha hn h2⟩

theorem RepL.length {φ : Nat → Place} {n : Nat} : ∀ {xs : List AC} {vs : List Value}, RepL φ n xs vs → vs.length = xs.length
  | [], [], _ => rfl
  | _ :: _, _ :: _, h => by simp [RepL.length h.2]
  | [], _ :: _, h => h.elim
  | _ :: _, [], h => h.elim

theorem RepL.get {φ : Nat → Place} {n : Nat} : ∀ {xs : List AC} {vs : List Value}, RepL φ n xs vs → ∀ (i : Nat) (x : AC), xs[i]? = some x → ∃ v, vs[i]? = some v ∧ RepC φ n x v
  | [], [], _, i, x, hx => by simp at hx
  | x :: xs, v :: vs, h, 0, y, hy => by
    simp at hy; subst hy
    exact ⟨v, rfl, h.1⟩
  | x :: xs, v :: vs, h, i + 1, y, hy => by
    simp at hy
    obtain ⟨u, h1, h2⟩ := RepL.get h.2 i y hy
    exact ⟨u, by simpa using h1, h2⟩
  | [], _ :: _, h, _, _, _ => h.elim
  | _ :: _, [], h, _, _, _ => h.elim

theorem RepT.get {φ : Nat → Place} {n : Nat} : ∀ {xs : List AV} {vs : List Value}, RepT φ n xs vs → ∀ (i : Nat) (x : AV), xs[i]? = some x → ∃ v, vs[i]? = some v ∧ Rep1 φ n x v
  | [], [], _, i, x, hx => by simp at hx
  | x :: xs, v :: vs, h, 0, y, hy => by
    simp at hy; subst hy
    exact ⟨v, rfl, h.1⟩
  | x :: xs, v :: vs, h, i + 1, y, hy => by
    simp at hy
    obtain ⟨u, h1, h2⟩ := RepT.get h.2 i y hy
    exact ⟨u, by simpa using h1, h2⟩
  | [], _ :: _, h, _, _, _ => h.elim
  | _ :: _, [], h, _, _, _ => h.elim

/-- a list of cells read one by one -/
theorem RepL.of_cells {φ : Nat → Place} {n : Nat} {g : Nat → Option Value} : ∀ (xs : List AC), (∀ (j : Nat) (x : AC), xs[j]? = some x → ∃ v, g j = some v ∧ RepC φ n x v) → ∃ vs : List Value, RepL φ n xs vs ∧ ∀ (j : Nat) (v : Value), vs[j]? = some v → g j = some v := by
  intro xs
  induction xs generalizing g with
  | nil => exact fun _ => ⟨[], trivial, fun j v h => by simp at h⟩
  | cons x xs ih =>
    intro h
    obtain ⟨v, hv, hr⟩ := h 0 x rfl
    obtain ⟨vs, h1, h2⟩ := ih (g := fun j => g (j + 1)) (fun j y hy => h (j + 1) y (by simpa using hy))
    refine ⟨v :: vs, ⟨hr, h1⟩, fun j u hu => ?_⟩
    cases j with
    | zero => simp at hu; subst hu; exact hv
    | succ j => exact h2 j u (by simpa using hu)

theorem RepL.append {φ : Nat → Place} {n : Nat} : ∀ {xs ys : List AC} {vs us : List Value}, RepL φ n xs vs → RepL φ n ys us → RepL φ n (xs ++ ys) (vs ++ us)
  | [], _, [], _, _, h => h
  | _ :: _, _, _ :: _, _, h, h' => ⟨h.1, RepL.append h.2 h'⟩
  | [], _, _ :: _, _, h, _ => h.elim
  | _ :: _, _, [], _, h, _ => h.elim

/-- the value of a cell is one cell -/
theorem RepC.one {φ : Nat → Place} {n : Nat} {x : AC} {v : Value} (h : RepC φ n x v) : v.oneCell' = true := by
  cases x with
  | int k m => rw [show v = _ from h]; rfl
  | bool b => rw [show v = _ from h]; rfl
  | str s => rw [show v = _ from h]; rfl
  | ptr b i j => rw [h.2]; rfl
  | sl b i m => obtain ⟨_, a, cap, rfl, _⟩ := h; rfl
  | nils => obtain ⟨a, rfl⟩ := h; rfl
  | fn f caps => rw [h.2]; rfl

theorem RepC.cells_eq {φ : Nat → Place} {n : Nat} {x : AC} {v : Value} (h : RepC φ n x v) : v.cells = #[v] := by
  cases x with
  | int k m => rw [show v = _ from h]; rfl
  | bool b => rw [show v = _ from h]; rfl
  | str s => rw [show v = _ from h]; rfl
  | ptr b i j => rw [h.2]; rfl
  | sl b i m => obtain ⟨_, a, cap, rfl, _⟩ := h; rfl
  | nils => obtain ⟨a, rfl⟩ := h; rfl
  | fn f caps => rw [h.2]; rfl

theorem RepL.one {φ : Nat → Place} {n : Nat} : ∀ {xs : List AC} {vs : List Value}, RepL φ n xs vs → ∀ v ∈ vs, v.oneCell' = true
  | [], [], _, v, hv => by cases hv
  | _ :: _, _ :: _, h, v, hv => by
    rcases List.mem_cons.1 hv with rfl | hv
    · exact h.1.one
    · exact RepL.one h.2 v hv
  | [], _ :: _, h, _, _ => h.elim
  | _ :: _, [], h, _, _ => h.elim

/-! ### worlds that keep a block -/
theorem BCells.keep {φ : Nat → Place} {n : Nat} {p : Place} {k : ABlk} {w w' : World} (h : BCells φ n p k w) (hk : 0 < p.cap → ∀ (i j : Nat) (v : Value), w.cell? (p.adr i j) = some v → w'.cell? (p.adr i j) = some v) : BCells φ n p k w' :=
  ⟨h.esz, h.cap, h.len, fun i e he j x hx => by
    obtain ⟨v, hv, hr⟩ := h.cell i e he j x hx
    have hi : i < k.els.length := (List.getElem?_eq_some_iff.1 he).1
    have := h.cap
    exact ⟨v, hk (by omega) i j v hv, hr⟩⟩

theorem BCells.mono {φ φ' : Nat → Place} {n n' : Nat} (ha : ∀ b, b < n → φ' b = φ b) (hn : n ≤ n') {p : Place} {k : ABlk} {w : World} (h : BCells φ n p k w) : BCells φ' n' p k w :=
  ⟨h.esz, h.cap, h.len, fun i e he j x hx => by
    obtain ⟨v, hv, hr⟩ := h.cell i e he j x hx
    exact ⟨v, hv, hr.mono ha hn⟩⟩

theorem BOwn.keep {B : Bd} {p : Place} {k : ABlk} {w w' : World} (h : BOwn B p k w) (hk : w'.heap[p.blk]? = w.heap[p.blk]?) : BOwn B p k w' :=
  ⟨h.base, h.out, h.off, h.cap, by rw [hk]; exact h.row⟩

/-- all that was there stands as it stood -/
theorem HRep.keep {φ : Nat → Place} {B : Bd} {H : AHeap} {w w' : World} (h : HRep φ B H w) (hb : Below w.heap.size w w') : HRep φ B H w' := by
  refine ⟨Nat.le_trans h.size hb.size, fun c hc => Nat.lt_of_lt_of_le (h.tlt c hc) hb.size, h.lt, fun b k hk => (h.cells b k hk).keep fun _ i j v hv => ?_, fun b k hk hr hc => ?_, h.ro, h.apart, h.mx, fun w'' h' => h.inv w'' ((hb.mono h.size).trans h')⟩
  · rw [hb.cell (World.block_lt_of_cell? w _ hv), hv]
  · refine (h.own b k hk hr hc).keep (hb.block _ ?_)
    obtain ⟨cs, fz, hh, _⟩ := (h.own b k hk hr hc).row
    exact (Array.getElem?_eq_some_iff.1 hh).1

theorem HRep.toRo {φ : Nat → Place} {B : Bd} {H : AHeap} {w : World} (h : HRep φ B H w) : HRep φ ⟨w.heap.size, fun _ => False⟩ H.toRo w := by
  have key : ∀ b k, H.toRo.b b = some k → ∃ k0, H.b b = some k0 ∧ k = k0.toRo := fun b k hk => by
    simp only [AHeap.toRo, Option.map_eq_some_iff] at hk
    obtain ⟨k0, h1, h2⟩ := hk
    exact ⟨k0, h1, h2.symm⟩
  refine ⟨Nat.le_refl _, fun _ hc => hc.elim, fun b k hk => ?_, fun b k hk => ?_, fun b k hk hr => ?_, fun b k hk _ hc => ?_, fun b k b' k' hk _ hr => ?_, fun b k hk => by obtain ⟨k0, h1, rfl⟩ := key b k hk; exact h.mx b k0 h1, fun w' h' => h.inv w' (h'.mono h.size)⟩
  · obtain ⟨k0, h1, _⟩ := key b k hk; exact h.lt b k0 h1
  · obtain ⟨k0, h1, rfl⟩ := key b k hk
    have hc := h.cells b k0 h1
    exact ⟨hc.esz, hc.cap, hc.len, hc.cell⟩
  · obtain ⟨k0, _, rfl⟩ := key b k hk; cases hr
  · obtain ⟨k0, h1, rfl⟩ := key b k hk
    cases hr0 : k0.ro with
    | true => exact Nat.lt_of_lt_of_le (h.ro b k0 h1 hr0 hc) h.size
    | false =>
      obtain ⟨cs, fz, hh, _⟩ := (h.own b k0 h1 hr0 hc).row
      exact (Array.getElem?_eq_some_iff.1 hh).1
  · obtain ⟨k0, _, rfl⟩ := key b k hk; cases hr

/-- fewer blocks -/
theorem HRep.less {φ : Nat → Place} {B : Bd} {H H' : AHeap} {w : World} (h : HRep φ B H w) (hI : H'.I = H.I) (hn : H.n = H'.n) (hs : ∀ b k, H'.b b = some k → H.b b = some k) : HRep φ B H' w :=
  ⟨h.size, h.tlt, fun b k hk => hn ▸ h.lt b k (hs b k hk), fun b k hk => hn ▸ h.cells b k (hs b k hk), fun b k hk => h.own b k (hs b k hk), fun b k hk => h.ro b k (hs b k hk),
    fun b k b' k' hk hk' => h.apart b k b' k' (hs b k hk) (hs b' k' hk'), fun b k hk => h.mx b k (hs b k hk), fun w' h' => by rw [hI]; exact h.inv w' h'⟩

theorem HRep.kill {φ : Nat → Place} {B : Bd} {H : AHeap} {w : World} (h : HRep φ B H w) (i : Nat) : HRep φ B (H.kill i) w :=
  h.less rfl rfl fun b k hk => by
    simp only [AHeap.kill] at hk
    split at hk
    · cases hk
    · exact hk

def updP (φ : Nat → Place) (n : Nat) (p : Place) : Nat → Place := fun b => if b = n then p else φ b
theorem updP_old {φ : Nat → Place} {n : Nat} {p : Place} : ∀ b, b < n → updP φ n p b = φ b := fun b hb => by simp [updP, Nat.ne_of_lt hb]
theorem updP_new {φ : Nat → Place} {n : Nat} {p : Place} : updP φ n p n = p := by simp [updP]

/-- a new block -/
theorem HRep.push {φ : Nat → Place} {B : Bd} {H : AHeap} {w : World} (h : HRep φ B H w) {k : ABlk} {p : Place} (hro : k.ro = false) (hc : BCells φ H.n p k w) (ho : 0 < p.cap → BOwn B p k w)
    (hf : 0 < p.cap → ∀ b k', H.b b = some k' → k'.ro = false → 0 < (φ b).cap → (φ b).blk ≠ p.blk) : HRep (updP φ H.n p) B (H.push k) w := by
  have key : ∀ b k', (H.push k).b b = some k' → (b = H.n ∧ k' = k) ∨ (b < H.n ∧ H.b b = some k') := fun b k' hk => by
    simp only [AHeap.push] at hk
    split at hk
    · rename_i hb; cases hk; exact .inl ⟨hb, rfl⟩
    · exact .inr ⟨h.lt b k' hk, hk⟩
  refine ⟨h.size, h.tlt, fun b k' hk => ?_, fun b k' hk => ?_, fun b k' hk hr hcap => ?_, fun b k' hk hr hcap => ?_, fun b1 k1 b2 k2 h1 h2 r1 r2 c1 c2 he => ?_, fun b k' hk => ?_, h.inv⟩
  · rcases key b k' hk with ⟨rfl, rfl⟩ | ⟨hlt, _⟩
    · exact Nat.lt_succ_self _
    · exact Nat.lt_succ_of_lt hlt
  · rcases key b k' hk with ⟨rfl, rfl⟩ | ⟨hlt, hb⟩
    · rw [updP_new]; exact hc.mono updP_old (Nat.le_succ _)
    · rw [updP_old b hlt]; exact (h.cells b k' hb).mono updP_old (Nat.le_succ _)
  · rcases key b k' hk with ⟨rfl, rfl⟩ | ⟨hlt, hb⟩
    · rw [updP_new] at hcap ⊢; exact ho hcap
    · rw [updP_old b hlt] at hcap ⊢; exact h.own b k' hb hr hcap
  · rcases key b k' hk with ⟨rfl, rfl⟩ | ⟨hlt, hb⟩
    · rw [hro] at hr; cases hr
    · rw [updP_old b hlt] at hcap ⊢; exact h.ro b k' hb hr hcap
  · rcases key b1 k1 h1 with ⟨rfl, rfl⟩ | ⟨l1, g1⟩ <;> rcases key b2 k2 h2 with ⟨e2, rfl⟩ | ⟨l2, g2⟩
    · exact e2.symm
    · rw [updP_new] at c1 he; rw [updP_old b2 l2] at c2 he
      exact absurd he.symm (hf c1 b2 k2 g2 r2 c2)
    · subst e2
      rw [updP_new] at c2 he; rw [updP_old b1 l1] at c1 he
      exact absurd he (hf c2 b1 k1 g1 r1 c1)
    · rw [updP_old b1 l1] at c1 he; rw [updP_old b2 l2] at c2 he
      exact h.apart b1 k1 b2 k2 g1 g2 r1 r2 c1 c2 he
  · rcases key b k' hk with ⟨rfl, rfl⟩ | ⟨hlt, hb⟩
    · rcases Nat.eq_zero_or_pos p.cap with h0 | h0
      · have := hc.cap; omega
      · have h1 := (ho h0).cap; have h2 := hc.cap; simp only [maxLen] at h1; omega
    · exact h.mx b k' hb

/-- one own row may have turned: the other blocks stand (the row's own block has been struck) -/
theorem HRep.other {φ : Nat → Place} {B : Bd} {H : AHeap} {w w' : World} {row : Option Nat} (h : HRep φ B H w) (hg : w.grownBy w' row) (hB : ∀ g, row = some g → B.B ≤ g ∧ ¬ B.T g)
    (hf : ∀ g, row = some g → ∀ b k, H.b b = some k → k.ro = false → 0 < (φ b).cap → (φ b).blk ≠ g) : HRep φ B H w' := by
  refine ⟨Nat.le_trans h.size hg.size, fun c hc => Nat.lt_of_lt_of_le (h.tlt c hc) hg.size, h.lt, fun b k hk => (h.cells b k hk).keep fun hcap i j v hv => ?_, fun b k hk hr hc => (h.own b k hk hr hc).keep (hg.block _ ?_ ?_), h.ro, h.apart, h.mx, fun w'' h' => h.inv w'' (Below.trans ⟨hg.os, hg.tape, hg.output, hg.size, fun k hk => hg.block k (Nat.lt_of_lt_of_le hk h.size) fun e => by have := (hB k e.symm).1; omega⟩ h')⟩
  · rw [← hv]
    refine World.cell?_of_block (hg.block _ (World.block_lt_of_cell? w _ hv) fun e => ?_)
    cases hr : k.ro with
    | true => have h1 := h.ro b k hk hr hcap; have h2 := (hB _ e.symm).1; simp only [Place.adr] at h2; omega
    | false => exact hf _ e.symm b k hk hr hcap rfl
  · obtain ⟨cs, fz, hh, _⟩ := (h.own b k hk hr hc).row
    exact (Array.getElem?_eq_some_iff.1 hh).1
  · intro e; exact hf _ e.symm b k hk hr hc rfl

end Go.Proofs.YtafenginfojcmaaGreatDoor
