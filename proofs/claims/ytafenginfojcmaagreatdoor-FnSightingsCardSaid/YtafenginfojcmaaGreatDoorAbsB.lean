/- The abstract machine, part B: frames, operands, what an operation does to abstract values and heaps. No program is named here. -/
import Derived.Test.YtafenginfojcmaaGreatDoorAbsA
namespace Go.Proofs.YtafenginfojcmaaGreatDoor
open Go.RowKit

abbrev AFrame := List (Nat × AV)
def AFrame.get : AFrame → Nat → Option AV
  | [], _ => none
  | (s, v) :: r, t => if s = t then some v else AFrame.get r t

def FRep (φ : Nat → Place) (n : Nat) (F : AFrame) (tmps : Array Value) : Prop :=
  ∀ t v, F.get t = some v → ∃ u, tmps[t]? = some u ∧ RepV φ n v u

def ofC : Value → Option AC
  | .int k n => some (.int k n)
  | .bool b => some (.bool b)
  | .string s => some (.str s.data.toList)
  | .slice _ 0 0 => some .nils
  | _ => none
def ofCs : List Value → Option (List AC)
  | [] => some []
  | v :: r => match ofC v, ofCs r with
    | some x, some xs => some (x :: xs)
    | _, _ => none
def ofConst : Value → Option AV
  | .agg cs => (ofCs cs.toList).map .agg
  | v => (ofC v).map .c

def opnd (F : AFrame) : Operand → Option AV
  | .tmp t => F.get t
  | .const v => ofConst v
  | .func f => some (.c (.fn f []))
  | .global _ => none

def opnds (F : AFrame) : List Operand → Option (List AV)
  | [] => some []
  | x :: r => match opnd F x, opnds F r with
    | some (.c y), some vs => some (.c y :: vs)
    | some (.agg ys), some vs => some (.agg ys :: vs)
    | _, _ => none

def onv {α : Type} (o : Option α) (K : α → Prop) : Prop := match o with
  | some v => K v
  | none => False
theorem onv_some {α : Type} (v : α) (K : α → Prop) : onv (some v) K = K v := rfl
theorem onv_none {α : Type} (K : α → Prop) : onv none K = False := rfl
theorem onv_iff {α : Type} {o : Option α} {K : α → Prop} : onv o K ↔ ∃ v, o = some v ∧ K v := by
  cases o <;> simp [onv]

/-! ### types -/
inductive TyK where
  | cell
  | obj (n : Nat)
  | arr (n : Nat)
def cellT (P : Program) (t : TypeId) : Bool := match P.underlying t, P.info? t with
  | some (.struct _), _ => false
  | some (.array _ _), _ => false
  | some _, some i => i.size == 1
  | _, _ => false
def tyK (P : Program) (t : TypeId) : Option TyK := match P.underlying t, P.info? t with
  | some (.struct _), some i => some (.obj i.size)
  | some (.array n e), some i => if i.size = n ∧ cellT P e = true then some (.arr n) else none
  | some _, some i => if i.size = 1 then some .cell else none
  | _, _ => none
/-- a slice type: the element's type, cells, bytes, zero -/
def slK (P : Program) (t : TypeId) : Option (TypeId × Nat × Nat) := match P.underlying t with
  | some (.slice e) => (P.info? e).map fun i => (e, i.size, i.bytes)
  | _ => none
def zeroK (P : Program) (t : TypeId) : Option (List AC) := (P.info? t).bind fun i => i.zero.bind fun z => if z.cells.size = i.size then ofCs z.cells.toList else none
def fldK (P : Program) (s : TypeId) (f : Nat) : Option Nat := match P.underlying s with
  | some (.struct fs) => (fs[f]?).bind fun g => if cellT P g.type then some g.offset else none
  | _ => none
def arrK (P : Program) (t : TypeId) : Option Nat := match tyK P t with
  | some (.arr n) => some n
  | _ => none
/-- where the parts of a struct go (of an array: each to its own number) -/
def plK (P : Program) (t : TypeId) : Option (Option (List (Nat × Nat))) := match P.underlying t with
  | some (.struct fs) => (fs.toList.mapM fun f => (P.info? f.type).map fun i => (f.offset, i.size)).map some
  | some (.array _ e) => if (P.info? e).map (·.size) = some 1 then some none else none
  | _ => none
def plAt : Option (List (Nat × Nat)) → Nat → Option Nat
  | none, i => some i
  | some pl, i => match pl[i]? with
    | some (o, 1) => some o
    | _ => none
/-- what conversions and len ask of a type -/
inductive DK where
  | str
  | int (k : IntKind)
  | bytes (e : TypeId)
  | slc
  | bool
  | other
def dK (P : Program) (t : TypeId) : Option DK := match P.underlying t with
  | some .string => some .str
  | some (.int k) => some (.int k)
  | some (.slice e) => match P.underlying e with
    | some (.int .u8) => some (.bytes e)
    | _ => some .slc
  | some (.array _ _) => some .other
  | some .bool => some .bool
  | _ => none

def asI : Option AV → Option Int
  | some (.c (.int _ n)) => some n
  | _ => none
/-- a bound that may be missing -/
def bnd (F : AFrame) (d : Int) : Option Operand → Option Int
  | none => some d
  | some x => asI (opnd F x)

def aint (op : BinOp) (k : IntKind) (a b : Int) (K : AC → Prop) : Prop := match op with
  | .add => K (.int k (k.wrap (a + b)))
  | .sub => K (.int k (k.wrap (a - b)))
  | .mul => K (.int k (k.wrap (a * b)))
  | .quo => b ≠ 0 ∧ K (.int k (k.wrap (a.tdiv b)))
  | .rem => b ≠ 0 ∧ K (.int k (a.tmod b))
  | .and => K (.int k (k.wrap (BitVec.ofInt k.bits a &&& BitVec.ofInt k.bits b).toNat))
  | .or => K (.int k (k.wrap (BitVec.ofInt k.bits a ||| BitVec.ofInt k.bits b).toNat))
  | .xor => K (.int k (k.wrap (BitVec.ofInt k.bits a ^^^ BitVec.ofInt k.bits b).toNat))
  | .eql => K (.bool (decide (a = b)))
  | .neq => K (.bool (decide (a ≠ b)))
  | .lss => K (.bool (decide (a < b)))
  | .leq => K (.bool (decide (a ≤ b)))
  | .gtr => K (.bool (decide (b < a)))
  | .geq => K (.bool (decide (b ≤ a)))
  | _ => False
def ashift (op : BinOp) (k : IntKind) (a b : Int) (K : AC → Prop) : Prop := match op with
  | .shl => 0 ≤ b ∧ K (.int k (k.wrap (a * 2 ^ (min b.toNat k.bits))))
  | .shr => 0 ≤ b ∧ K (.int k (a.fdiv (2 ^ (min b.toNat k.bits))))
  | _ => False
def astr (op : BinOp) (a b : List UInt8) (K : AC → Prop) : Prop := match op with
  | .add => a.length + b.length ≤ 9223372036854775807 ∧ K (.str (a ++ b))
  | .eql => K (.bool (decide (a = b)))
  | .neq => K (.bool (decide (a ≠ b)))
  | .lss => K (.bool (Op.bytesLess a b))
  | _ => False
/-- two structs of plain cells -/
def plainC : AC → Bool
  | .int _ _ => true
  | .bool _ => true
  | .str _ => true
  | _ => false

def isShift : BinOp → Bool
  | .shl => true
  | .shr => true
  | _ => false

def abin (op : BinOp) (x y : AV) (K : AC → Prop) : Prop := match x, y with
  | .c (.int k a), .c (.int k' b) => match isShift op with
    | true => ashift op k a b K
    | false => k = k' ∧ aint op k a b K
  | .c (.str a), .c (.str b) => astr op a b K
  | _, _ => False

def abool (op : BinOp) (a b : Bool) (K : AC → Prop) : Prop := match op with
  | .eql => K (.bool (a == b))
  | .neq => K (.bool (!(a == b)))
  | _ => False
/-- a slice beside nil: an empty one may be nil or not -/
def anil (op : BinOp) (n : Nat) (K : AC → Prop) : Prop := match op with
  | .eql => K (.bool false) ∧ (n = 0 → K (.bool true))
  | .neq => K (.bool true) ∧ (n = 0 → K (.bool false))
  | _ => False
def slcT : Option DK → Bool
  | some .slc => true
  | some (.bytes _) => true
  | _ => false
def nilOp : Operand → Bool
  | .const (.slice none 0 0) => true
  | _ => false
/-- two structs of plain fields, beside each other -/
def fldKind (P : Program) (t : TypeId) : Option Nat := match P.underlying t with
  | some (.int _) => some 0
  | some .string => some 1
  | some .bool => some 2
  | _ => none
def eqKs (P : Program) (t : TypeId) : Option (List Nat) := match P.underlying t with
  | some (.struct fs) => if P.stoodInHeld t = false ∧ P.eqGuardType P.depth t = false ∧ (fs.toList.zipIdx.all fun x => x.1.name != "_" && x.1.offset == x.2) = true then fs.toList.mapM fun f => fldKind P f.type else none
  | _ => none
def okEq : List Nat → List AC → Bool
  | [], [] => true
  | 0 :: r, .int _ _ :: xs => okEq r xs
  | 1 :: r, .str _ :: xs => okEq r xs
  | 2 :: r, .bool _ :: xs => okEq r xs
  | _, _ => false
def eqACs : List AC → List AC → Option Bool
  | [], [] => some true
  | .int k a :: xs, .int k' b :: ys => if k = k' then (eqACs xs ys).map fun r => decide (a = b) && r else none
  | .str a :: xs, .str b :: ys => (eqACs xs ys).map fun r => decide (a = b) && r
  | .bool a :: xs, .bool b :: ys => (eqACs xs ys).map fun r => (a == b) && r
  | _, _ => none
def eqB (op : BinOp) (b : Bool) (K : AC → Prop) : Prop := match op with
  | .eql => K (.bool b)
  | .neq => K (.bool (!b))
  | _ => False
def abinT (P : Program) (t : TypeId) (o : Operand) (op : BinOp) (x y : AV) (K : AC → Prop) : Prop := match x, y with
  | .c (.bool a), .c (.bool b) => dK P t = some .bool ∧ abool op a b K
  | .c (.sl _ _ n), .c .nils => nilOp o = true ∧ slcT (dK P t) = true ∧ anil op n K
  | .c .nils, .c .nils => nilOp o = true ∧ slcT (dK P t) = true ∧ anil op 0 K
  | .agg xs, .agg ys => onv (eqKs P t) fun ks => okEq ks xs = true ∧ okEq ks ys = true ∧ onv (eqACs xs ys) fun b => eqB op b K
  | x, y => abin op x y K

def aun (op : UnOp) (x : AV) (K : AC → Prop) : Prop := match op, x with
  | .not, .c (.bool b) => K (.bool (!b))
  | .neg, .c (.int k n) => K (.int k (k.wrap (0 - n)))
  | _, _ => False

def capsOf (F : AFrame) : List Operand → Option (List Nat)
  | [] => some []
  | x :: r => match opnd F x, capsOf F r with
    | some (.c (.ptr b 0 0)), some bs => some (b :: bs)
    | _, _ => none

/-- the parts of a struct or an array go to their places -/
def fillA (place : Nat → Option Nat) (F : AFrame) (cs : List AC) : List (Nat × Operand) → Option (List AC)
  | [] => some cs
  | (f, x) :: r => match place f, opnd F x with
    | some o, some (.c v) => if o < cs.length then fillA place F (cs.set o v) r else none
    | _, _ => none
/-- the parts of a slice go to their places -/
def fillS (esz : Nat) (F : AFrame) (es : List (List AC)) : List (Nat × Operand) → Option (List (List AC))
  | [] => some es
  | (i, x) :: r => match opnd F x with
    | some (.c v) => if i < es.length ∧ esz = 1 then fillS esz F (es.set i [v]) r else none
    | some (.agg vs) => if i < es.length ∧ vs.length = esz then fillS esz F (es.set i vs) r else none
    | _ => none

def bytesOf : List (List AC) → Option (List UInt8)
  | [] => some []
  | [.int .u8 m] :: r => (bytesOf r).map (UInt8.ofNat m.toNat :: ·)
  | _ => none

def ints : List AV → Option (List Int)
  | [] => some []
  | .c (.int .i64 n) :: r => (ints r).map (n :: ·)
  | _ => none
def maxI : List Int → Option Int
  | [] => none
  | x :: r => some (r.foldl (fun a b => if b > a then b else a) x)
def minI : List Int → Option Int
  | [] => none
  | x :: r => some (r.foldl (fun a b => if b < a then b else a) x)

/-- operations that leave the heap alone -/
def apure (P : Program) (H : AHeap) (F : AFrame) (op : Op) (K : AV → Prop) : Prop := match op with
  | .move x => onv (opnd F x) K
  | .assign x => onv (opnd F x) K
  | .pick c a b => onv (opnd F c) fun
    | .c (.bool t) => (t = true → onv (opnd F a) K) ∧ (t = false → onv (opnd F b) K)
    | _ => False
  | .load t a => onv (opnd F a) fun
    | .c (.ptr b i j) => onv (H.b b) fun k => onv (tyK P t) fun
      | .cell => onv (k.els[i]?) fun e => onv (e[j]?) fun x => K (.c x)
      | .obj n => j = 0 ∧ n = k.esz ∧ onv (k.els[i]?) fun e => K (.agg e)
      | .arr n => j = 0 ∧ k.esz = 1 ∧ i + n ≤ k.els.length ∧ K (.agg ((k.els.drop i).take n).flatten)
    | _ => False
  | .fieldAddr s x f => onv (opnd F x) fun
    | .c (.ptr b i j) => onv (fldK P s f) fun o => K (.c (.ptr b i (j + o)))
    | _ => False
  | .indexAddr t x ix => onv (opnd F x) fun xv => onv (asI (opnd F ix)) fun m => match xv with
    | .c (.sl b i n) => onv (H.b b) fun k => onv (slK P t) fun s => s.2.1 = k.esz ∧ 0 ≤ m ∧ m < n ∧ K (.c (.ptr b (i + m.toNat) 0))
    | .c (.ptr b i j) => onv (H.b b) fun k => onv (arrK P t) fun n => j = 0 ∧ k.esz = 1 ∧ 0 ≤ m ∧ m < n ∧ K (.c (.ptr b (i + m.toNat) 0))
    | _ => False
  | .slice t x lo hi mx => onv (opnd F x) fun xv => onv (bnd F 0 lo) fun l => match xv, mx with
    | .c (.str s), none => onv (bnd F s.length hi) fun h => (dK P t = some .str) ∧ 0 ≤ l ∧ l ≤ h ∧ h ≤ s.length ∧ K (.c (.str ((s.take h.toNat).drop l.toNat)))
    | .c (.sl b i n), none => onv (H.b b) fun k => onv (slK P t) fun s => onv (bnd F n hi) fun h => s.2.1 = k.esz ∧ 0 ≤ l ∧ l ≤ h ∧ h ≤ n ∧ K (.c (.sl b (i + l.toNat) (h - l).toNat))
    | .c (.sl _ _ _), some m => onv (slK P t) fun _ => onv (hi.bind fun y => asI (opnd F y)) fun h => onv (asI (opnd F m)) fun m => l = 0 ∧ h = 0 ∧ m = 0 ∧ K (.c .nils)
    | .c .nils, none => onv (slK P t) fun _ => onv (bnd F 0 hi) fun h => l = 0 ∧ h = 0 ∧ K (.c .nils)
    | .c .nils, some m => onv (slK P t) fun _ => onv (hi.bind fun y => asI (opnd F y)) fun h => onv (asI (opnd F m)) fun m => l = 0 ∧ h = 0 ∧ m = 0 ∧ K (.c .nils)
    | .c (.ptr b i j), none => onv (H.b b) fun k => onv (arrK P t) fun n => onv (bnd F n hi) fun h => j = 0 ∧ k.esz = 1 ∧ i + n ≤ k.els.length ∧ 0 ≤ l ∧ l ≤ h ∧ h ≤ n ∧ K (.c (.sl b (i + l.toNat) (h - l).toNat))
    | _, _ => False
  | .convert s d x => onv (opnd F x) fun xv => onv (dK P s) fun sk => onv (dK P d) fun dk => match xv, sk, dk with
    | .c (.int _ n), .int _, .int k => K (.c (.int k (k.wrap n)))
    | .c (.str s), .str, .str => K (.c (.str s))
    | .c (.sl b i n), .bytes _, .str => onv (H.b b) fun k => onv (bytesOf ((k.els.drop i).take n)) fun l => i + n ≤ k.els.length ∧ k.esz = 1 ∧ K (.c (.str l))
    | _, _, _ => False
  | .extract x i => onv (opnd F x) fun
    | .tup xs => onv (xs[i]?) K
    | _ => False
  | .field t x f => onv (opnd F x) fun
    | .agg xs => onv (fldK P t f) fun o => onv (xs[o]?) fun c => K (.c c)
    | _ => False
  | .index t x ix => onv (opnd F x) fun xv => onv (asI (opnd F ix)) fun m => match xv with
    | .c (.str s) => (dK P t = some .str) ∧ 0 ≤ m ∧ onv (s[m.toNat]?) fun c => K (.c (.int .u8 c.toNat))
    | .agg xs => onv (arrK P t) fun n => xs.length = n ∧ 0 ≤ m ∧ m < n ∧ onv (xs[m.toNat]?) fun c => K (.c c)
    | _ => False
  | .unOp op _ x => onv (opnd F x) fun v => aun op v fun c => K (.c c)
  | .binOp op t x y _ => onv (opnd F x) fun v => onv (opnd F y) fun u => abinT P t y op v u fun c => K (.c c)
  | .makeFunc (.func f) first caps => first.size = 0 ∧ onv (capsOf F caps.toList) fun bs => K (.c (.fn f bs))
  | .nilCheck x => onv (opnd F x) fun
    | .c (.ptr b i j) => K (.c (.ptr b i j))
    | .c (.fn f bs) => K (.c (.fn f bs))
    | _ => False
  | .build t parts => onv (zeroK P t) fun z => onv (plK P t) fun pl => onv (fillA (plAt pl) F z parts.toList) fun cs => K (.agg cs)
  | .call ⟨.builtin .len, ⟨[x]⟩, ⟨[t]⟩⟩ => onv (opnd F x) fun xv => onv (dK P t) fun dk => match xv, dk with
    | .c (.str s), .str => K (.c (.int .i64 s.length))
    | .c (.sl _ _ n), .slc => K (.c (.int .i64 n))
    | .c (.sl _ _ n), .bytes _ => K (.c (.int .i64 n))
    | .c .nils, .slc => K (.c (.int .i64 0))
    | .c .nils, .bytes _ => K (.c (.int .i64 0))
    | _, _ => False
  | .call ⟨.builtin .max, args, _⟩ => onv (opnds F args.toList) fun vs => onv (ints vs) fun l => onv (maxI l) fun m => K (.c (.int .i64 m))
  | .call ⟨.builtin .min, args, _⟩ => onv (opnds F args.toList) fun vs => onv (ints vs) fun l => onv (minI l) fun m => K (.c (.int .i64 m))
  | _ => False

def cellsA : AV → Option (List AC)
  | .c x => some [x]
  | .agg xs => some xs
  | .tup _ => none

/-- a variable's block -/
def boxK (tk : TyK) (t : TypeId) (cs : List AC) : ABlk := match tk with
  | .arr _ => ⟨t, 1, false, false, cs.map fun x => [x]⟩
  | _ => ⟨t, cs.length, false, false, [cs]⟩

def Enters (P : Program) (g : FuncId) : Prop := ∀ (args : Array Value) (w : World), (callFunc g args).run P w = .ok (.enter g args) w

/-- THE CONTRACT: a call on abstract arguments over an abstract heap -/
def ACalls (P : Program) (g : FuncId) (args : List AV) (H : AHeap) (K : AV → AHeap → Prop) : Prop :=
  Enters P g ∧ ∀ (φ : Nat → Place) (B : Bd) (w : World) (vs : List Value), HRep φ B H w → RepT φ H.n args vs →
    Calls P g vs.toArray w fun e w' => ∃ (r : AV) (u : Value) (φ' : Nat → Place) (H' : AHeap), e = .returned u ∧ RepV φ' H'.n r u ∧ HRep φ' B H' w' ∧ Kept B w w' ∧ H.n ≤ H'.n ∧ (∀ b, b < H.n → φ' b = φ b) ∧ K r H'

/-- the elements that are appended -/
def newsOf (H : AHeap) (esz : Nat) : AV → Option (List (List AC))
  | .c .nils => some []
  | .c (.sl b i m) => (H.b b).bind fun k => if i + m ≤ k.els.length ∧ k.esz = esz then some ((k.els.drop i).take m) else none
  | _ => none

/-- operations that make or write memory, and calls -/
def aeff (P : Program) (H : AHeap) (F : AFrame) (op : Op) (K : AV → AHeap → Prop) : Prop := match op with
  | .alloc t => onv (tyK P t) fun tk => onv (zeroK P t) fun z => z.length ≤ 1000000 ∧ K (.c (.ptr H.n 0 0)) (H.push (boxK tk t z))
  | .box t x => onv (tyK P t) fun tk => onv (opnd F x) fun v => onv (cellsA v) fun cs => cs.length ≤ 1000000 ∧ K (.c (.ptr H.n 0 0)) (H.push (boxK tk t cs))
  | .store t a x => onv (opnd F a) fun av => onv (opnd F x) fun xv => onv (tyK P t) fun tk => match av, xv, tk with
    | .c (.ptr b i j), .c v, .cell => onv (H.b b) fun k => onv (k.els[i]?) fun e => k.ro = false ∧ j < e.length ∧ K (.tup []) (H.set b { k with els := k.els.set i (e.set j v) })
    | .c (.ptr b i j), .agg xs, .obj n => onv (H.b b) fun k => k.ro = false ∧ j = 0 ∧ n = k.esz ∧ xs.length = n ∧ i < k.els.length ∧ K (.tup []) (H.set b { k with els := k.els.set i xs })
    | .c (.ptr b i j), .agg xs, .arr n => onv (H.b b) fun k => k.ro = false ∧ j = 0 ∧ i = 0 ∧ k.esz = 1 ∧ xs.length = n ∧ k.els.length = n ∧ K (.tup []) (H.set b { k with els := xs.map fun x => [x] })
    | _, _, _ => False
  | .buildSlice t len parts => onv (slK P t) fun s => onv (zeroK P s.1) fun z => onv (fillS s.2.1 F (List.replicate len z) parts.toList) fun es =>
      0 < s.2.1 ∧ len * s.2.1 ≤ 1000000 ∧ K (.c (.sl H.n 0 len)) (H.push ⟨s.1, s.2.1, false, false, es⟩)
  | .makeSlice t l c => onv (slK P t) fun s => onv (zeroK P s.1) fun z => onv (asI (opnd F l)) fun l => onv (asI (opnd F c)) fun c =>
      0 < s.2.1 ∧ 0 ≤ l ∧ l ≤ c ∧ (s.2.2 : Int) * c ≤ 140737488355328 ∧ c ≤ 140737488355328 ∧ K (.c (.sl H.n 0 l.toNat)) (H.push ⟨s.1, s.2.1, false, false, List.replicate l.toNat z⟩)
  | .convert s d x => onv (opnd F x) fun xv => onv (dK P s) fun sk => onv (dK P d) fun dk => match xv, sk, dk with
    | .c (.str l), .str, .bytes e => onv (slK P d) fun sl => sl.2.1 = 1 ∧ l.length ≤ 140737488355328 ∧ K (.c (.sl H.n 0 l.length)) (H.push ⟨e, 1, false, true, l.map fun c => [.int .u8 c.toNat]⟩)
    | _, _, _ => False
  | .call ⟨.builtin .append, ⟨[x, y]⟩, ⟨[t, t']⟩⟩ => t = t' ∧ onv (slK P t) fun s => onv (zeroK P s.1) fun _ => 0 < s.2.1 ∧ onv (opnd F x) fun xv => onv (opnd F y) fun yv =>
      onv (newsOf H s.2.1 yv) fun news => match xv with
          | .c .nils => news.length * s.2.2 ≤ 140737488355328 ∧ news.length ≤ 140737488355328 ∧ K (.c (.sl H.n 0 news.length)) (H.push ⟨s.1, s.2.1, false, false, news⟩)
          | .c (.sl b i n) => onv (H.b b) fun k => i = 0 ∧ k.ro = false ∧ k.fz = false ∧ k.ty = s.1 ∧ k.esz = s.2.1 ∧ n ≤ k.els.length ∧ (n + news.length) * s.2.2 ≤ 140737488355328 ∧ n + news.length ≤ 140737488355328 ∧
              K (.c (.sl H.n 0 (n + news.length))) ((H.kill b).push ⟨s.1, s.2.1, false, false, k.els.take n ++ news⟩)
          | _ => False
  | .call ⟨.builtin .copy, ⟨[x, y]⟩, ⟨[t, _]⟩⟩ => onv (slK P t) fun s => s.2.1 = 1 ∧ onv (opnd F x) fun xv => onv (opnd F y) fun yv => onv (newsOf H 1 yv) fun news => match xv with
          | .c (.sl b i n) => onv (H.b b) fun k => k.ro = false ∧ k.esz = 1 ∧ i + n ≤ k.els.length ∧ 0 < min news.length n ∧
              K (.c (.int .i64 (min news.length n : Nat))) (H.set b { k with els := k.els.take i ++ (news.take n ++ k.els.drop (i + min news.length n)) })
          | _ => False
  | .call ⟨.value f, args, _⟩ => onv (opnd F f) fun
    | .c (.fn g caps) => onv (opnds F args.toList) fun vs => ACalls P g (vs ++ caps.map fun b => .c (.ptr b 0 0)) H K
    | _ => False
  | _ => False

end Go.Proofs.YtafenginfojcmaaGreatDoor
