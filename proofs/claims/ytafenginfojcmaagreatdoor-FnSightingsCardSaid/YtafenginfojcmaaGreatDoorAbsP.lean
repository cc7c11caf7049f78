/- The abstract machine, part P: more equations (slices, append, conversions, building), reading typed lists. No program is named here. -/
import Derived.Test.YtafenginfojcmaaGreatDoorAbsO
namespace Go.Proofs.YtafenginfojcmaaGreatDoor
open Go.RowKit

section
variable {P : Program} {Γ : Env} {N n0 : Nat} {F : AFrame} {H : AHeap} {KE : AV → AHeap → Prop} {KA : AV → Prop}

/-- a slice expression without a cap -/
def sliceV (P : Program) (H : AHeap) (F : AFrame) (t : TypeId) (hi : Option Operand) (l : Int) (K : AV → Prop) : AV → Prop
  | .c (.str s) => onv (bnd F s.length hi) fun h => (dK P t = some .str) ∧ 0 ≤ l ∧ l ≤ h ∧ h ≤ s.length ∧ K (.c (.str ((s.take h.toNat).drop l.toNat)))
  | .c (.sl b i n) => onv (H.b b) fun k => onv (slK P t) fun s => onv (bnd F n hi) fun h => s.2.1 = k.esz ∧ 0 ≤ l ∧ l ≤ h ∧ h ≤ n ∧ K (.c (.sl b (i + l.toNat) (h - l).toNat))
  | .c .nils => onv (slK P t) fun _ => onv (bnd F 0 hi) fun h => l = 0 ∧ h = 0 ∧ K (.c .nils)
  | .c (.ptr b i j) => onv (H.b b) fun k => onv (arrK P t) fun n => onv (bnd F n hi) fun h => j = 0 ∧ k.esz = 1 ∧ i + n ≤ k.els.length ∧ 0 ≤ l ∧ l ≤ h ∧ h ≤ n ∧ K (.c (.sl b (i + l.toNat) (h - l).toNat))
  | _ => False
@[congr] theorem sliceV_congr {P : Program} {H : AHeap} {F : AFrame} {t : TypeId} {hi : Option Operand} {l : Int} {K : AV → Prop} {v v' : AV} (h : v = v') : sliceV P H F t hi l K v = sliceV P H F t hi l K v' := by rw [h]
@[simp ↓] theorem sliceV_str (t : TypeId) (hi : Option Operand) (l : Int) (s : List UInt8) : sliceV P H F t hi l KA (.c (.str s)) = onv (bnd F s.length hi) fun h => (dK P t = some .str) ∧ 0 ≤ l ∧ l ≤ h ∧ h ≤ s.length ∧ KA (.c (.str ((s.take h.toNat).drop l.toNat))) := rfl
@[simp ↓] theorem sliceV_sl (t : TypeId) (hi : Option Operand) (l : Int) (b i n : Nat) : sliceV P H F t hi l KA (.c (.sl b i n)) = onv (H.b b) fun k => onv (slK P t) fun s => onv (bnd F n hi) fun h => s.2.1 = k.esz ∧ 0 ≤ l ∧ l ≤ h ∧ h ≤ n ∧ KA (.c (.sl b (i + l.toNat) (h - l).toNat)) := rfl
@[simp ↓] theorem sliceV_nils (t : TypeId) (hi : Option Operand) (l : Int) : sliceV P H F t hi l KA (.c .nils) = onv (slK P t) fun _ => onv (bnd F 0 hi) fun h => l = 0 ∧ h = 0 ∧ KA (.c .nils) := rfl
@[simp ↓] theorem sliceV_ptr (t : TypeId) (hi : Option Operand) (l : Int) (b i j : Nat) : sliceV P H F t hi l KA (.c (.ptr b i j)) = onv (H.b b) fun k => onv (arrK P t) fun n => onv (bnd F n hi) fun h => j = 0 ∧ k.esz = 1 ∧ i + n ≤ k.els.length ∧ 0 ≤ l ∧ l ≤ h ∧ h ≤ n ∧ KA (.c (.sl b (i + l.toNat) (h - l).toNat)) := rfl
theorem p_slice (t : TypeId) (x : Operand) (lo hi : Option Operand) : apure P H F (.slice t x lo hi none) KA = onv (opnd F x) fun xv => onv (bnd F 0 lo) fun l => sliceV P H F t hi l KA xv := by
  simp only [apure]
  cases opnd F x with
  | none => rfl
  | some v => cases bnd F 0 lo with
    | none => rfl
    | some l => cases v with
      | c y => cases y <;> rfl
      | _ => rfl
@[simp ↓] theorem s_slice (t : TypeId) (x : Operand) (lo hi : Option Operand) : astep P Γ H F (.slice t x lo hi none) KE = onv (opnd F x) fun xv => onv (bnd F 0 lo) fun l => sliceV P H F t hi l (fun v => KE v H) xv := (or_f _).trans (p_slice t x lo hi)
@[simp ↓] theorem q_slice (t : TypeId) (x : Operand) (lo hi : Option Operand) : astepQ P Γ H F (.slice t x lo hi none) KA = onv (opnd F x) fun xv => onv (bnd F 0 lo) fun l => sliceV P H F t hi l KA xv := p_slice (H := H) t x lo hi
/-- a slice expression with a cap: the empty one alone -/
def sliceM (P : Program) (F : AFrame) (t : TypeId) (hi : Option Operand) (m : Operand) (l : Int) (K : AV → Prop) : AV → Prop
  | .c (.sl _ _ _) => onv (slK P t) fun _ => onv (hi.bind fun y => asI (opnd F y)) fun h => onv (asI (opnd F m)) fun m => l = 0 ∧ h = 0 ∧ m = 0 ∧ K (.c .nils)
  | .c .nils => onv (slK P t) fun _ => onv (hi.bind fun y => asI (opnd F y)) fun h => onv (asI (opnd F m)) fun m => l = 0 ∧ h = 0 ∧ m = 0 ∧ K (.c .nils)
  | _ => False
@[congr] theorem sliceM_congr {P : Program} {F : AFrame} {t : TypeId} {hi : Option Operand} {m : Operand} {l : Int} {K : AV → Prop} {v v' : AV} (h : v = v') : sliceM P F t hi m l K v = sliceM P F t hi m l K v' := by rw [h]
@[simp ↓] theorem sliceM_sl (t : TypeId) (hi : Option Operand) (m : Operand) (l : Int) (b i n : Nat) : sliceM P F t hi m l KA (.c (.sl b i n)) = onv (slK P t) fun _ => onv (hi.bind fun y => asI (opnd F y)) fun h => onv (asI (opnd F m)) fun m => l = 0 ∧ h = 0 ∧ m = 0 ∧ KA (.c .nils) := rfl
@[simp ↓] theorem sliceM_nils (t : TypeId) (hi : Option Operand) (m : Operand) (l : Int) : sliceM P F t hi m l KA (.c .nils) = onv (slK P t) fun _ => onv (hi.bind fun y => asI (opnd F y)) fun h => onv (asI (opnd F m)) fun m => l = 0 ∧ h = 0 ∧ m = 0 ∧ KA (.c .nils) := rfl
theorem p_sliceM (t : TypeId) (x : Operand) (lo hi : Option Operand) (m : Operand) : apure P H F (.slice t x lo hi (some m)) KA = onv (opnd F x) fun xv => onv (bnd F 0 lo) fun l => sliceM P F t hi m l KA xv := by
  simp only [apure]
  cases opnd F x with
  | none => rfl
  | some v => cases bnd F 0 lo with
    | none => rfl
    | some l => cases v with
      | c y => cases y <;> rfl
      | _ => rfl
@[simp ↓] theorem s_sliceM (t : TypeId) (x : Operand) (lo hi : Option Operand) (m : Operand) : astep P Γ H F (.slice t x lo hi (some m)) KE = onv (opnd F x) fun xv => onv (bnd F 0 lo) fun l => sliceM P F t hi m l (fun v => KE v H) xv := (or_f _).trans (p_sliceM t x lo hi m)

/-- a conversion -/
def cvtP (H : AHeap) (K : AV → Prop) (sk dk : DK) : AV → Prop
  | .c (.int _ n) => match sk, dk with
    | .int _, .int k => K (.c (.int k (k.wrap n)))
    | _, _ => False
  | .c (.str s) => match sk, dk with
    | .str, .str => K (.c (.str s))
    | _, _ => False
  | .c (.sl b i n) => match sk, dk with
    | .bytes _, .str => onv (H.b b) fun k => onv (bytesOf ((k.els.drop i).take n)) fun l => i + n ≤ k.els.length ∧ k.esz = 1 ∧ K (.c (.str l))
    | _, _ => False
  | _ => False
def cvtE (P : Program) (H : AHeap) (d : TypeId) (K : AV → AHeap → Prop) (sk dk : DK) : AV → Prop
  | .c (.str l) => match sk, dk with
    | .str, .bytes e => onv (slK P d) fun sl => sl.2.1 = 1 ∧ l.length ≤ 140737488355328 ∧ K (.c (.sl H.n 0 l.length)) (H.push ⟨e, 1, false, true, l.map fun c => [.int .u8 c.toNat]⟩)
    | _, _ => False
  | _ => False
theorem p_convert (s d : TypeId) (x : Operand) : apure P H F (.convert s d x) KA = onv (dK P s) fun sk => onv (dK P d) fun dk => onv (opnd F x) (cvtP H KA sk dk) := by
  simp only [apure]
  cases opnd F x with
  | none => cases dK P s <;> cases dK P d <;> rfl
  | some v => cases dK P s with
    | none => rfl
    | some sk => cases dK P d with
      | none => rfl
      | some dk => cases v with
        | c y => cases y <;> cases sk <;> cases dk <;> rfl
        | _ => cases sk <;> cases dk <;> rfl
theorem e_convert (s d : TypeId) (x : Operand) : aeff P H F (.convert s d x) KE = onv (dK P s) fun sk => onv (dK P d) fun dk => onv (opnd F x) (cvtE P H d KE sk dk) := by
  simp only [aeff]
  cases opnd F x with
  | none => cases dK P s <;> cases dK P d <;> rfl
  | some v => cases dK P s with
    | none => rfl
    | some sk => cases dK P d with
      | none => rfl
      | some dk => cases v with
        | c y => cases y <;> cases sk <;> cases dk <;> rfl
        | _ => cases sk <;> cases dk <;> rfl
def cvtK (P : Program) (H : AHeap) (d : TypeId) (K : AV → AHeap → Prop) (sk dk : DK) (v : AV) : Prop := cvtP H (fun v => K v H) sk dk v ∨ cvtE P H d K sk dk v
@[congr] theorem cvtK_congr {P : Program} {H : AHeap} {d : TypeId} {K : AV → AHeap → Prop} {sk dk : DK} {v v' : AV} (h : v = v') : cvtK P H d K sk dk v = cvtK P H d K sk dk v' := by rw [h]
@[simp ↓] theorem cvtK_int (d : TypeId) (k k1 k2 : IntKind) (n : Int) : cvtK P H d KE (.int k1) (.int k2) (.c (.int k n)) = KE (.c (.int k2 (k2.wrap n))) H := or_f _
@[simp ↓] theorem cvtK_str (d : TypeId) (s : List UInt8) : cvtK P H d KE .str .str (.c (.str s)) = KE (.c (.str s)) H := or_f _
@[simp ↓] theorem cvtK_sl (d e : TypeId) (b i n : Nat) : cvtK P H d KE (.bytes e) .str (.c (.sl b i n)) = onv (H.b b) fun k => onv (bytesOf ((k.els.drop i).take n)) fun l => i + n ≤ k.els.length ∧ k.esz = 1 ∧ KE (.c (.str l)) H := or_f _
@[simp ↓] theorem cvtK_bytes (d e : TypeId) (l : List UInt8) : cvtK P H d KE .str (.bytes e) (.c (.str l)) = onv (slK P d) fun sl => sl.2.1 = 1 ∧ l.length ≤ 140737488355328 ∧ KE (.c (.sl H.n 0 l.length)) (H.push ⟨e, 1, false, true, l.map fun c => [.int .u8 c.toNat]⟩) := f_or _
@[congr] theorem cvtP_congr {H : AHeap} {K : AV → Prop} {sk dk : DK} {v v' : AV} (h : v = v') : cvtP H K sk dk v = cvtP H K sk dk v' := by rw [h]
@[simp ↓] theorem cvtP_int (k k1 k2 : IntKind) (n : Int) : cvtP H KA (.int k1) (.int k2) (.c (.int k n)) = KA (.c (.int k2 (k2.wrap n))) := rfl
@[simp ↓] theorem cvtP_str (s : List UInt8) : cvtP H KA .str .str (.c (.str s)) = KA (.c (.str s)) := rfl
@[simp ↓] theorem cvtP_sl (e : TypeId) (b i n : Nat) : cvtP H KA (.bytes e) .str (.c (.sl b i n)) = onv (H.b b) fun k => onv (bytesOf ((k.els.drop i).take n)) fun l => i + n ≤ k.els.length ∧ k.esz = 1 ∧ KA (.c (.str l)) := rfl
@[simp ↓] theorem s_convert (s d : TypeId) (x : Operand) : astep P Γ H F (.convert s d x) KE = onv (dK P s) fun sk => onv (dK P d) fun dk => onv (opnd F x) (cvtK P H d KE sk dk) := by
  show (apure P H F (.convert s d x) (fun v => KE v H) ∨ aeff P H F (.convert s d x) KE) = _
  rw [p_convert, e_convert]
  cases dK P s with
  | none => simp
  | some sk => cases dK P d with
    | none => simp
    | some dk => cases opnd F x with
      | none => simp
      | some v => rfl
@[simp ↓] theorem q_convert (s d : TypeId) (x : Operand) : astepQ P Γ H F (.convert s d x) KA = onv (dK P s) fun sk => onv (dK P d) fun dk => onv (opnd F x) (cvtP H KA sk dk) := p_convert (H := H) s d x

/-- the elements that are appended -/
def newsK (H : AHeap) (esz : Nat) (K : List (List AC) → Prop) : AV → Prop
  | .c .nils => K []
  | .c (.sl b i m) => onv (H.b b) fun k => i + m ≤ k.els.length ∧ k.esz = esz ∧ K ((k.els.drop i).take m)
  | _ => False
@[congr] theorem newsK_congr {H : AHeap} {e : Nat} {K : List (List AC) → Prop} {v v' : AV} (h : v = v') : newsK H e K v = newsK H e K v' := by rw [h]
@[simp ↓] theorem newsK_nils (e : Nat) (K : List (List AC) → Prop) : newsK H e K (.c .nils) = K [] := rfl
@[simp ↓] theorem newsK_sl (e : Nat) (K : List (List AC) → Prop) (b i m : Nat) : newsK H e K (.c (.sl b i m)) = onv (H.b b) fun k => i + m ≤ k.els.length ∧ k.esz = e ∧ K ((k.els.drop i).take m) := rfl
theorem newsOf_onv (e : Nat) (K : List (List AC) → Prop) (v : AV) : onv (newsOf H e v) K = newsK H e K v := by
  cases v with
  | c y => cases y <;> try rfl
           rename_i b i n
           simp only [newsOf, newsK]
           cases H.b b with
           | none => rfl
           | some k =>
             simp only [Option.bind_some, onv_some_post]
             by_cases h : i + n ≤ k.els.length ∧ k.esz = e
             · rw [if_pos h]; simp [h]
             · rw [if_neg h]; rw [onv_none_post]; exact (eq_false fun h' => h ⟨h'.1, h'.2.1⟩).symm
  | _ => rfl
def appK (H : AHeap) (s : TypeId × Nat × Nat) (K : AV → AHeap → Prop) (news : List (List AC)) : AV → Prop
  | .c .nils => news.length * s.2.2 ≤ 140737488355328 ∧ news.length ≤ 140737488355328 ∧ K (.c (.sl H.n 0 news.length)) (H.push ⟨s.1, s.2.1, false, false, news⟩)
  | .c (.sl b i n) => onv (H.b b) fun k => i = 0 ∧ k.ro = false ∧ k.fz = false ∧ k.ty = s.1 ∧ k.esz = s.2.1 ∧ n ≤ k.els.length ∧ (n + news.length) * s.2.2 ≤ 140737488355328 ∧ n + news.length ≤ 140737488355328 ∧
      K (.c (.sl H.n 0 (n + news.length))) ((H.kill b).push ⟨s.1, s.2.1, false, false, k.els.take n ++ news⟩)
  | _ => False
@[congr] theorem appK_congr {H : AHeap} {s : TypeId × Nat × Nat} {K : AV → AHeap → Prop} {n : List (List AC)} {v v' : AV} (h : v = v') : appK H s K n v = appK H s K n v' := by rw [h]
@[simp ↓] theorem appK_nils (s : TypeId × Nat × Nat) (news : List (List AC)) : appK H s KE news (.c .nils) = (news.length * s.2.2 ≤ 140737488355328 ∧ news.length ≤ 140737488355328 ∧ KE (.c (.sl H.n 0 news.length)) (H.push ⟨s.1, s.2.1, false, false, news⟩)) := rfl
@[simp ↓] theorem appK_sl (s : TypeId × Nat × Nat) (news : List (List AC)) (b i n : Nat) : appK H s KE news (.c (.sl b i n)) = onv (H.b b) fun k => i = 0 ∧ k.ro = false ∧ k.fz = false ∧ k.ty = s.1 ∧ k.esz = s.2.1 ∧ n ≤ k.els.length ∧ (n + news.length) * s.2.2 ≤ 140737488355328 ∧ n + news.length ≤ 140737488355328 ∧
      KE (.c (.sl H.n 0 (n + news.length))) ((H.kill b).push ⟨s.1, s.2.1, false, false, k.els.take n ++ news⟩) := rfl
@[simp ↓] theorem s_append (x y : Operand) (t t' : TypeId) : astep P Γ H F (.call ⟨.builtin .append, ⟨[x, y]⟩, ⟨[t, t']⟩⟩) KE =
    (t = t' ∧ onv (slK P t) fun s => onv (zeroK P s.1) fun _ => 0 < s.2.1 ∧ onv (opnd F x) fun xv => onv (opnd F y) (newsK H s.2.1 fun news => appK H s KE news xv)) := by
  refine (f_or _).trans ?_
  simp only [aeff, newsOf_onv]
  rfl

/-- copy of elements of one cell -/
def cpyK (H : AHeap) (KE : AV → AHeap → Prop) (news : List (List AC)) : AV → Prop
  | .c (.sl b i n) => onv (H.b b) fun k => k.ro = false ∧ k.esz = 1 ∧ i + n ≤ k.els.length ∧ 0 < min news.length n ∧
      KE (.c (.int .i64 (min news.length n : Nat))) (H.set b { k with els := k.els.take i ++ (news.take n ++ k.els.drop (i + min news.length n)) })
  | _ => False
@[congr] theorem cpyK_congr {H : AHeap} {KE : AV → AHeap → Prop} {news : List (List AC)} {v v' : AV} (h : v = v') : cpyK H KE news v = cpyK H KE news v' := by rw [h]
@[simp ↓] theorem cpyK_sl (news : List (List AC)) (b i n : Nat) : cpyK H KE news (.c (.sl b i n)) = onv (H.b b) fun k => k.ro = false ∧ k.esz = 1 ∧ i + n ≤ k.els.length ∧ 0 < min news.length n ∧
      KE (.c (.int .i64 (min news.length n : Nat))) (H.set b { k with els := k.els.take i ++ (news.take n ++ k.els.drop (i + min news.length n)) }) := rfl
@[simp ↓] theorem s_copy (x y : Operand) (t t' : TypeId) : astep P Γ H F (.call ⟨.builtin .copy, ⟨[x, y]⟩, ⟨[t, t']⟩⟩) KE =
    (onv (slK P t) fun s => s.2.1 = 1 ∧ onv (opnd F x) fun xv => onv (opnd F y) (newsK H 1 fun news => cpyK H KE news xv)) := by
  refine (f_or _).trans ?_
  simp only [aeff, newsOf_onv]
  rfl

/-- addresses handed on -/
def capK (K : Nat → Prop) : AV → Prop
  | .c (.ptr b 0 0) => K b
  | _ => False
@[congr] theorem capK_congr {K : Nat → Prop} {v v' : AV} (h : v = v') : capK K v = capK K v' := by rw [h]
@[simp ↓] theorem capK_ptr (K : Nat → Prop) (b : Nat) : capK K (.c (.ptr b 0 0)) = K b := rfl
@[simp ↓] theorem capsOf_nil (K : List Nat → Prop) : onv (capsOf F []) K = K [] := rfl
@[simp ↓] theorem capsOf_cons (x : Operand) (r : List Operand) (K : List Nat → Prop) : onv (capsOf F (x :: r)) K = onv (opnd F x) (capK fun b => onv (capsOf F r) fun bs => K (b :: bs)) := by
  simp only [capsOf]
  cases opnd F x with
  | none => rfl
  | some v =>
    cases v with
    | c y =>
      cases y <;> try (cases capsOf F r <;> rfl)
      rename_i b i j
      cases i <;> cases j <;> cases capsOf F r <;> rfl
    | _ => cases capsOf F r <;> rfl
@[simp ↓] theorem s_makeFunc (f : FuncId) (caps : List Operand) : astep P Γ H F (.makeFunc (.func f) #[] ⟨caps⟩) KE = onv (capsOf F caps) fun bs => KE (.c (.fn f bs)) H := by
  refine (or_f _).trans ?_
  simp [apure]

/-- building -/
def cK (K : AC → Prop) : AV → Prop
  | .c x => K x
  | _ => False
@[congr] theorem cK_congr {K : AC → Prop} {v v' : AV} (h : v = v') : cK K v = cK K v' := by rw [h]
@[simp ↓] theorem cK_c (K : AC → Prop) (x : AC) : cK K (.c x) = K x := rfl
@[simp ↓] theorem fillA_nil (pl : Nat → Option Nat) (cs : List AC) (K : List AC → Prop) : onv (fillA pl F cs []) K = K cs := rfl
@[simp ↓] theorem fillA_cons (pl : Nat → Option Nat) (cs : List AC) (f : Nat) (x : Operand) (r : List (Nat × Operand)) (K : List AC → Prop) :
    onv (fillA pl F cs ((f, x) :: r)) K = onv (pl f) fun o => onv (opnd F x) (cK fun v => o < cs.length ∧ onv (fillA pl F (cs.set o v) r) K) := by
  simp only [fillA]
  cases pl f with
  | none => rfl
  | some o => cases opnd F x with
    | none => rfl
    | some v => cases v with
      | c y =>
        simp only [onv_some_post, cK]
        split
        · rename_i h; simp [h]
        · rename_i h; simp [h]
      | _ => rfl
@[simp] theorem plAt_none (i : Nat) : plAt none i = some i := rfl
@[simp] theorem plAt_zero (o : Nat) (r : List (Nat × Nat)) : plAt (some ((o, 1) :: r)) 0 = some o := rfl
@[simp] theorem plAt_succ (p : Nat × Nat) (r : List (Nat × Nat)) (i : Nat) : plAt (some (p :: r)) (i + 1) = plAt (some r) i := by simp [plAt]
@[simp] theorem plAt_1 (p : Nat × Nat) (r : List (Nat × Nat)) : plAt (some (p :: r)) 1 = plAt (some r) 0 := plAt_succ p r 0
@[simp] theorem plAt_2 (p : Nat × Nat) (r : List (Nat × Nat)) : plAt (some (p :: r)) 2 = plAt (some r) 1 := plAt_succ p r 1
@[simp] theorem plAt_3 (p : Nat × Nat) (r : List (Nat × Nat)) : plAt (some (p :: r)) 3 = plAt (some r) 2 := plAt_succ p r 2
@[simp] theorem plAt_4 (p : Nat × Nat) (r : List (Nat × Nat)) : plAt (some (p :: r)) 4 = plAt (some r) 3 := plAt_succ p r 3
@[simp] theorem plAt_5 (p : Nat × Nat) (r : List (Nat × Nat)) : plAt (some (p :: r)) 5 = plAt (some r) 4 := plAt_succ p r 4
@[simp] theorem plAt_6 (p : Nat × Nat) (r : List (Nat × Nat)) : plAt (some (p :: r)) 6 = plAt (some r) 5 := plAt_succ p r 5
@[simp] theorem plAt_7 (p : Nat × Nat) (r : List (Nat × Nat)) : plAt (some (p :: r)) 7 = plAt (some r) 6 := plAt_succ p r 6
@[simp] theorem plAt_8 (p : Nat × Nat) (r : List (Nat × Nat)) : plAt (some (p :: r)) 8 = plAt (some r) 7 := plAt_succ p r 7
@[simp ↓] theorem s_build (t : TypeId) (parts : List (Nat × Operand)) : astep P Γ H F (.build t ⟨parts⟩) KE = onv (zeroK P t) fun z => onv (plK P t) fun pl => onv (fillA (plAt pl) F z parts) fun cs => KE (.agg cs) H := or_f _
@[simp ↓] theorem q_build (t : TypeId) (parts : List (Nat × Operand)) : astepQ P Γ H F (.build t ⟨parts⟩) KA = onv (zeroK P t) fun z => onv (plK P t) fun pl => onv (fillA (plAt pl) F z parts) fun cs => KA (.agg cs) := rfl
@[simp ↓] theorem fillS_nil (e : Nat) (es : List (List AC)) (K : List (List AC) → Prop) : onv (fillS e F es []) K = K es := rfl
@[simp ↓] theorem fillS_cons (e : Nat) (es : List (List AC)) (i : Nat) (x : Operand) (r : List (Nat × Operand)) (K : List (List AC) → Prop) :
    onv (fillS e F es ((i, x) :: r)) K = onv (opnd F x) (cellsK fun cs => i < es.length ∧ cs.length = e ∧ onv (fillS e F (es.set i cs) r) K) := by
  simp only [fillS]
  cases opnd F x with
  | none => rfl
  | some v => cases v with
    | c y =>
      simp only [onv_some_post, cellsK, List.length_singleton]
      split
      · rename_i h; simp [h.1, h.2.symm]
      · rename_i h; rw [onv_none_post]; exact (eq_false fun h' => h ⟨h'.1, h'.2.1.symm⟩).symm
    | agg ys =>
      simp only [onv_some_post, cellsK]
      split
      · rename_i h; simp [h.1, h.2]
      · rename_i h; rw [onv_none_post]; exact (eq_false fun h' => h ⟨h'.1, h'.2.1⟩).symm
    | tup _ => rfl
/-- the greatest and the least of two -/
@[simp ↓] theorem p_max (x y : Operand) (ts : Array TypeId) : apure P H F (.call ⟨.builtin .max, ⟨[x, y]⟩, ts⟩) KA = onv (opnds F [x, y]) fun vs => onv (ints vs) fun l => onv (maxI l) fun m => KA (.c (.int .i64 m)) := rfl
@[simp ↓] theorem p_min (x y : Operand) (ts : Array TypeId) : apure P H F (.call ⟨.builtin .min, ⟨[x, y]⟩, ts⟩) KA = onv (opnds F [x, y]) fun vs => onv (ints vs) fun l => onv (minI l) fun m => KA (.c (.int .i64 m)) := rfl

/-! ### reading lists -/
@[simp ↓] theorem onv_toRo {i : Nat} {K : ABlk → Prop} : onv (H.toRo.b i) K = onv (H.b i) fun k => K k.toRo := by
  rw [toRo_b]; cases H.b i <;> rfl
@[simp] theorem ro_els (k : ABlk) : k.toRo.els = k.els := rfl
@[simp] theorem ro_esz (k : ABlk) : k.toRo.esz = k.esz := rfl
@[simp] theorem ro_ty (k : ABlk) : k.toRo.ty = k.ty := rfl

/-- how a Lean type stands in cells -/
structure Enc (α : Type) where
  n : Nat
  cells : α → List AC
  dec : List AC → Option α
  dc : ∀ a, dec (cells a) = some a
  cd : ∀ e a, dec e = some a → e = cells a
  len : ∀ a, (cells a).length = n
def Enc.decL {α : Type} (E : Enc α) : List (List AC) → Option (List α)
  | [] => some []
  | e :: r => match E.dec e, E.decL r with
    | some a, some l => some (a :: l)
    | _, _ => none
@[simp] theorem Enc.decL_map {α : Type} (E : Enc α) : ∀ l : List α, E.decL (l.map E.cells) = some l
  | [] => rfl
  | a :: l => by simp [decL, E.dc, E.decL_map l]
theorem Enc.decL_eq {α : Type} (E : Enc α) : ∀ {L : List (List AC)} {l : List α}, E.decL L = some l → L = l.map E.cells
  | [], l, h => by simp [decL] at h; subst h; rfl
  | e :: L, l, h => by
    simp only [decL] at h
    split at h
    · rename_i a r h1 h2
      cases h
      rw [E.cd e a h1, E.decL_eq h2]; rfl
    · cases h
/-- a slice's elements -/
def Enc.rd {α : Type} (E : Enc α) (H : AHeap) (K : List α → Prop) : AV → Prop
  | .c (.sl b i n) => onv (H.b b) fun k => k.esz = E.n ∧ i + n ≤ k.els.length ∧ onv (E.decL ((k.els.drop i).take n)) K
  | _ => False
@[simp ↓] theorem Enc.rd_sl {α : Type} (E : Enc α) (H : AHeap) (K : List α → Prop) (b i n : Nat) : E.rd H K (.c (.sl b i n)) = onv (H.b b) fun k => k.esz = E.n ∧ i + n ≤ k.els.length ∧ onv (E.decL ((k.els.drop i).take n)) K := rfl
@[congr] theorem Enc.rd_congr {α : Type} {E : Enc α} {H : AHeap} {K : List α → Prop} {v v' : AV} (h : v = v') : E.rd H K v = E.rd H K v' := by rw [h]
/-- nil too -/
def Enc.rd0 {α : Type} (E : Enc α) (H : AHeap) (K : List α → Prop) : AV → Prop
  | .c .nils => K []
  | v => E.rd H K v
@[simp ↓] theorem Enc.rd0_nils {α : Type} (E : Enc α) (H : AHeap) (K : List α → Prop) : E.rd0 H K (.c .nils) = K [] := rfl
@[simp ↓] theorem Enc.rd0_sl {α : Type} (E : Enc α) (H : AHeap) (K : List α → Prop) (b i n : Nat) : E.rd0 H K (.c (.sl b i n)) = E.rd H K (.c (.sl b i n)) := rfl
@[simp] theorem take_map_len {α β : Type} (f : α → β) (l : List α) : (l.map f).take l.length = l.map f := by
  rw [← List.length_map (f := f), List.take_length]
/-- a list in memory -/
structure Enc.At {α : Type} (E : Enc α) (H : AHeap) (b i : Nat) (k : ABlk) (l : List α) : Prop where
  blk : H.b b = some k
  esz : k.esz = E.n
  len : i + l.length ≤ k.els.length
  els : (k.els.drop i).take l.length = l.map E.cells
theorem Enc.At.get {α : Type} {E : Enc α} {b i : Nat} {k : ABlk} {l : List α} (h : E.At H b i k l) {j : Nat} (hj : j < l.length) : k.els[i + j]? = some (E.cells l[j]) := by
  have h1 : ((k.els.drop i).take l.length)[j]? = (l.map E.cells)[j]? := by rw [h.els]
  rw [List.getElem?_take_of_lt hj, List.getElem?_drop] at h1
  rw [h1]; simp [hj]
theorem Enc.rd_at {α : Type} {E : Enc α} {K : List α → Prop} {x : AV} (h : E.rd H K x) : ∃ b i k l, x = .c (.sl b i l.length) ∧ E.At H b i k l ∧ K l := by
  cases x with
  | c y =>
    cases y with
    | sl b i n =>
      simp only [Enc.rd] at h
      obtain ⟨k, hk, h1, h2, h3⟩ := onv_iff.1 h
      obtain ⟨l, hl, h4⟩ := onv_iff.1 h3
      have h5 := E.decL_eq hl
      have h6 : n = l.length := by
        have := congrArg List.length h5
        simp at this
        omega
      subst h6
      exact ⟨b, i, k, l, rfl, ⟨hk, h1, h2, h5⟩, h4⟩
    | _ => exact h.elim
  | _ => exact h.elim
theorem Enc.At.rd {α : Type} {E : Enc α} {K : List α → Prop} {b i : Nat} {k : ABlk} {l : List α} (h : E.At H b i k l) : E.rd H K (.c (.sl b i l.length)) = K l := by
  simp [h.blk, h.esz, h.len, h.els]
end
end Go.Proofs.YtafenginfojcmaaGreatDoor
