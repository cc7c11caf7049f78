/- The abstract machine, part U: regions that draw their order. If all that writes or reads memory waits in one row, and the rest is fixed by the slots alone (new rows too, but for their blocks' numbers), then one order tells all orders. No program is named here. -/
import Derived.Test.YtafenginfojcmaaGreatDoorAbsS
import Derived.StillTail
namespace Go.Proofs.YtafenginfojcmaaGreatDoor
open Go Go.RowKit

inductive FK where
  | anch
  | calm
  | read
  | make
  | watch
  | late
  | lateM
  deriving DecidableEq
def makeB : Op → Bool
  | .buildSlice _ _ _ => true
  | .box _ _ => true
  | .alloc _ => true
  | _ => false
def kindOf (o : Oper) : FK := match o.op with
  | .assign _ => .anch
  | .load _ _ => .read
  | op => if makeB op = true then .make else if calmB op = true then .calm else .anch

/-- w: reads that may stand beside what writes: what they read stays as it is all the while; l: the same, where the region itself makes the address: the row it names stays as it is; m: a read, its address, its row: made in the region -/
structure WL where
  w : List Nat
  l : List Nat
  m : List (Nat × Nat × Nat)
def mOf (wl : WL) (i : Nat) : Option (Nat × Nat) := (wl.m.find? fun x => x.1 == i).map (·.2)
def kindAt (wl : WL) (i : Nat) (o : Oper) : FK := if wl.w.contains i = true then .watch else if wl.l.contains i = true then .late else if (mOf wl i).isSome = true then .lateM else kindOf o
/-- what leaves the world alone -/
def still (o : Oper) : Bool := match o.op with
  | .assign _ => true
  | _ => false
theorem kind_calm {o : Oper} (h : kindOf o = .calm) : calmB o.op = true := by
  unfold kindOf at h
  split at h
  · cases h
  · cases h
  · split at h
    · cases h
    · split at h
      · assumption
      · cases h
theorem kind_make {o : Oper} (h : kindOf o = .make) : makeB o.op = true := by
  unfold kindOf at h
  split at h
  · cases h
  · cases h
  · split at h
    · assumption
    · split at h <;> cases h
theorem kind_read {o : Oper} (h : kindOf o = .read) : ∃ t x, o.op = .load t x := by
  unfold kindOf at h
  split at h
  · cases h
  · rename_i t x e; exact ⟨t, x, e⟩
  · split at h
    · cases h
    · split at h <;> cases h

section
variable {P : Program} {Γ : Env} {φ : Nat → Place} {H : AHeap} {F : AFrame} {a : Act} {B : Bd} {w : World}

theorem calm_step {op : Op} {K : AV → AHeap → Prop} (hc : calmB op = true) (h : astep P Γ H F op K) : apure P H F op (fun v => K v H) := by
  unfold calmB at hc
  split at hc <;> first | (cases hc; done) | exact Or.resolve_right h (fun h' => h')
theorem make_step {op : Op} {K : AV → AHeap → Prop} (hc : makeB op = true) (h : astep P Γ H F op K) : aeff P H F op K := by
  unfold makeB at hc
  split at hc <;> first | (cases hc; done) | exact Or.resolve_left h (fun h' => h')
theorem read_step {t : TypeId} {x : Operand} {K : AV → AHeap → Prop} (h : astep P Γ H F (.load t x) K) : apure P H F (.load t x) (fun v => K v H) := Or.resolve_right h (fun h' => h')

theorem box_rep {n : Nat} {tk : TyK} {t : TypeId} {xs : List AC} {vs : List Value} (hr : RepL φ n xs vs) (hl : xs.length ≤ 1000000) :
    ∃ cap, (boxK tk t xs).ro = false ∧ (boxK tk t xs).ty = t ∧ vs.toArray.size = cap * (boxK tk t xs).esz ∧ (boxK tk t xs).els.length ≤ cap ∧ cap ≤ maxLen ∧ CellsRep φ n (boxK tk t xs).esz (boxK tk t xs).els vs.toArray := by
  have hlen := hr.length
  have hm : (1000000 : Nat) ≤ maxLen := by decide
  cases tk with
  | arr m => exact ⟨xs.length, rfl, rfl, by simp [boxK, hlen], by simp [boxK], by omega, CellsRep.ones hr⟩
  | cell => exact ⟨1, rfl, rfl, by simp [boxK, hlen], by simp [boxK], by omega, CellsRep.single hr⟩
  | obj m => exact ⟨1, rfl, rfl, by simp [boxK, hlen], by simp [boxK], by omega, CellsRep.single hr⟩

/-- a new row, a new box: what it holds is fixed by the slots alone -/
theorem make_of {o : Oper} {op : Op} {K : AV → AHeap → Prop} (hm : makeB op = true) (ho : o.op = op) (hF : FRep φ H.n F a.tmps) (h : aeff P H F op K) :
    ∃ (cs : Array Value) (k : ABlk) (cap : Nat) (mk : Nat → Value) (v : AV), (∀ w', (execOp a.eval o).run P w' = .ok (.value (mk w'.heap.size)) (w'.alloc (.cells cs k.ty))) ∧ K v (H.push k) ∧ k.ro = false ∧ cs.size = cap * k.esz ∧
      k.els.length ≤ cap ∧ cap ≤ maxLen ∧ CellsRep φ H.n k.esz k.els cs ∧ (∀ p, RepV (updP φ H.n ⟨p, 0, k.esz, cap⟩) (H.n + 1) v (mk p)) ∧ ∀ t n ps, op = .buildSlice t n ps → ∀ p, mk p = .slice (some ⟨p, 0, none⟩) n n := by
  unfold makeB at hm
  split at hm
  · rename_i t len parts
    simp only [aeff] at h
    obtain ⟨s, hs, h⟩ := onv_iff.1 h
    obtain ⟨z, hz, h⟩ := onv_iff.1 h
    obtain ⟨es, hes, h1, h2, hK⟩ := onv_iff.1 h
    obtain ⟨inf, g1, g2, g3, g4⟩ := slK_some hs
    obtain ⟨i, zv, e1, e2, e3, e4⟩ := zeroK_some hz
    rw [g2] at e1; cases e1
    have hzr := ofCs_rep (φ := φ) (n := H.n) e4
    have hzl : z.length = zv.cells.size := by rw [← hzr.length]; simp
    have hmade := made_rep (φ := φ) hzr len len (Nat.le_refl _)
    rw [hzl, e3, g3] at hmade
    obtain ⟨f0, cs', f1, f2, f3⟩ := fillS_of (a := a) hF hes hmade (by simp [size_madeCells])
    rw [size_madeCells] at f2
    simp only [List.length_replicate] at f0
    have hparts : (parts.map fun (i, x) => (i, a.eval x)).toList = parts.toList.map fun (i, x) => (i, a.eval x) := by simp
    have hrun : ∀ w, (Instr.buildSlice t len (parts.map fun (i, x) => (i, a.eval x))).run P w = .ok (.slice (some ⟨w.heap.size, 0, none⟩) len len) (w.alloc (.cells cs' s.1)) := fun w => by
      have hb : ¬ (len * s.2.1 > 2 ^ 24) := by omega
      rw [← hparts] at f1
      by_cases hz0 : len * s.2.1 = 0
      · have hl0 : len = 0 := by
          rcases Nat.mul_eq_zero.1 hz0 with h0 | h0
          · exact h0
          · omega
        subst hl0
        simp only [madeCells, Nat.zero_mul] at f1
        have er : ∀ f : Nat → Value, Array.map f (Array.range 0) = #[] := fun f => by simp
        rw [er] at f1
        simp only [Instr.buildSlice, Sem.run_bind, run_underlying g1, sizeOf, typeInfo, run_program, g2, g3, Sem.run_pure, Result.andThen_ok, Sem.run_ite, Nat.zero_mul, if_true, newRow, er]
        rw [if_neg (by omega), f1]
        simp
      · simp only [madeCells] at f1
        simp only [Instr.buildSlice, Sem.run_bind, run_underlying g1, sizeOf, typeInfo, run_program, g2, g3, zeroValue, e2, Sem.run_pure, Result.andThen_ok, Sem.run_ite, if_neg hb, if_neg hz0, newRow]
        rw [f1]
        simp
    refine ⟨cs', ⟨s.1, s.2.1, false, false, es⟩, len, fun p => .slice (some ⟨p, 0, none⟩) len len, _, fun w' => by simp only [execOp, ho, Sem.run_bind, hrun, Result.andThen_ok, Sem.run_pure], hK, rfl, f2, Nat.le_of_eq f0,
      by simp only [maxLen]; have := Nat.le_mul_of_pos_right len h1; omega, f3, fun p => ⟨Nat.lt_succ_self _, _, _, rfl, Nat.le_refl _, ?_, fun _ => ?_⟩, fun t' n' ps' e p => by cases e; rfl⟩
    · rw [updP_new]; simp
    · rw [updP_new]; simp [Place.adr]
  · rename_i t x
    simp only [aeff] at h
    obtain ⟨tk, ht, h⟩ := onv_iff.1 h
    obtain ⟨v, hv, h⟩ := onv_iff.1 h
    obtain ⟨cs, hcs, hl, hK⟩ := onv_iff.1 h
    have he := eval_of hF hv
    have key : ∃ vs : List Value, (a.eval x).cells = vs.toArray ∧ RepL φ H.n cs vs := by
      cases v with
      | c y =>
        simp [cellsA] at hcs; subst hcs
        exact ⟨[a.eval x], RepC.cells_eq (show RepC φ H.n y _ from he), ⟨he, trivial⟩⟩
      | agg ys =>
        simp [cellsA] at hcs; subst hcs
        obtain ⟨vs, h1, h2⟩ := (show Rep1 φ H.n (.agg ys) _ from he)
        exact ⟨vs, by rw [h1]; rfl, h2⟩
      | tup _ => cases hcs
    obtain ⟨vs, h1, h2⟩ := key
    obtain ⟨cap, k1, k2, k3, k4, k5, k6⟩ := box_rep (tk := tk) (t := t) h2 hl
    refine ⟨vs.toArray, boxK tk t cs, cap, fun p => .pointer (some ⟨p, 0, none⟩), _, fun w' => by simp [execOp, ho, Instr.box, newVar, newRow, h1, k2], hK, k1, k3, k4, k5, k6, fun p => ⟨Nat.lt_succ_self _, ?_⟩, fun t' n' ps' e p => by cases e⟩
    rw [updP_new]; simp [Place.adr]
  · rename_i t
    simp only [aeff] at h
    obtain ⟨tk, ht, h⟩ := onv_iff.1 h
    obtain ⟨z, hz, hl, hK⟩ := onv_iff.1 h
    obtain ⟨i, zv, g1, g2, g3, g4⟩ := zeroK_some hz
    obtain ⟨cap, k1, k2, k3, k4, k5, k6⟩ := box_rep (tk := tk) (t := t) (ofCs_rep (φ := φ) (n := H.n) g4) hl
    refine ⟨zv.cells.toList.toArray, boxK tk t z, cap, fun p => .pointer (some ⟨p, 0, none⟩), _, fun w' => by simp [execOp, ho, Instr.alloc, zeroValue, typeInfo, g1, g2, newVar, newRow, k2], hK, k1, k3, k4, k5, k6, fun p => ⟨Nat.lt_succ_self _, ?_⟩, fun t' n' ps' e p => by cases e⟩
    rw [updP_new]; simp [Place.adr]
  · cases hm

/-! ### what is made ahead of its turn -/
theorem HRep.lessT {T' : Nat → Prop} (h : HRep φ B H w) (hT : ∀ c, T' c → B.T c) : HRep φ ⟨B.B, T'⟩ H w :=
  ⟨h.size, fun c hc => h.tlt c (hT c hc), h.lt, h.cells, fun b k hk hr hc => let o := h.own b k hk hr hc; ⟨o.base, fun ht => o.out (hT _ ht), o.off, o.cap, o.row⟩, h.ro, h.apart, h.mx, h.inv⟩
theorem HRep.moreT {T' : Nat → Prop} (h : HRep φ B H w) (hlt : ∀ c, T' c → c < w.heap.size) (hout : ∀ b k, H.b b = some k → k.ro = false → 0 < (φ b).cap → ¬ T' (φ b).blk) : HRep φ ⟨B.B, T'⟩ H w :=
  ⟨h.size, hlt, h.lt, h.cells, fun b k hk hr hc => let o := h.own b k hk hr hc; ⟨o.base, hout b k hk hr hc, o.off, o.cap, o.row⟩, h.ro, h.apart, h.mx, h.inv⟩
theorem HRep.ownLt (h : HRep φ B H w) {b : Nat} {k : ABlk} (hk : H.b b = some k) (hr : k.ro = false) (hc : 0 < (φ b).cap) : (φ b).blk < w.heap.size := by
  obtain ⟨cs, fz, h1, _⟩ := (h.own b k hk hr hc).row
  exact (Array.getElem?_eq_some_iff.1 h1).1
theorem HRep.pushAt {T' : Nat → Prop} (h : HRep φ B H w) (hT : ∀ c, T' c → B.T c) {k : ABlk} {cs : Array Value} {cap p : Nat} (hro : k.ro = false) (hp : B.T p) (hp' : ¬ T' p) (hpB : B.B ≤ p) (hh : w.heap[p]? = some (.cells cs k.ty))
    (hs : cs.size = cap * k.esz) (hc : k.els.length ≤ cap) (hm : cap ≤ maxLen) (hr : CellsRep φ H.n k.esz k.els cs) : HRep (updP φ H.n ⟨p, 0, k.esz, cap⟩) ⟨B.B, T'⟩ (H.push k) w :=
  (h.lessT hT).push hro (BCells.of_row (p := ⟨p, 0, k.esz, cap⟩) hh rfl rfl hc hr) (fun _ => ⟨hpB, hp', rfl, hm, cs, (0, 0), hh, hs, fun _ => rfl, by omega⟩)
    fun _ b k' hk hr' hcap e => (h.own b k' hk hr' hcap).out (by rw [e]; exact hp)

/-! ### what waits for what -/
def maskOf (ms : List Nat) : List Edge → Nat
  | [] => 0
  | e :: r => if Region.binds .any e = true then (2 ^ e.on ||| ms.getD e.on 0) ||| maskOf ms r else maskOf ms r
def masks (ops : Array Oper) : List Nat := ops.toList.foldl (fun acc o => acc ++ [maskOf acc o.after.toList]) []
def wt (ms : List Nat) (y x : Nat) : Bool := (ms.getD y 0).testBit x
def masksOk (ops : Array Oper) (ms : List Nat) : Bool := (List.range ops.size).all fun y => match ops[y]? with
  | some o => (o.after.toList.all fun e => !Region.binds .any e || decide (e.on < y)) && ms.getD y 0 == maskOf ms o.after.toList
  | none => true
def Closed (ops : Array Oper) (listed : Array Bool) : Prop := ∀ (j : Nat) (o : Oper), ops[j]? = some o → listed.getD j false = true → ∀ e ∈ o.after, Region.binds .any e = true → listed.getD e.on false = true
def WaitsIn (ops : Array Oper) (listed : Array Bool) (y : Nat) : Prop := ∀ o, ops[y]? = some o → ∀ e ∈ o.after, Region.binds .any e = true → listed.getD e.on false = true

theorem maskOf_bit (ms : List Nat) (x : Nat) : ∀ l : List Edge, (maskOf ms l).testBit x = true → ∃ e ∈ l, Region.binds .any e = true ∧ (e.on = x ∨ wt ms e.on x = true)
  | [], h => by simp [maskOf] at h
  | e :: r, h => by
    simp only [maskOf] at h
    split at h
    · rename_i hb
      simp only [Nat.testBit_or, Bool.or_eq_true, Nat.testBit_two_pow, decide_eq_true_eq] at h
      rcases h with (h | h) | h
      · exact ⟨e, by simp, hb, .inl h⟩
      · exact ⟨e, by simp, hb, .inr h⟩
      · obtain ⟨e', h1, h2⟩ := maskOf_bit ms x r h
        exact ⟨e', by simp [h1], h2⟩
    · obtain ⟨e', h1, h2⟩ := maskOf_bit ms x r h
      exact ⟨e', by simp [h1], h2⟩
theorem masks_at {ops : Array Oper} {ms : List Nat} (hm : masksOk ops ms = true) {y : Nat} {o : Oper} (ho : ops[y]? = some o) :
    (∀ e ∈ o.after, Region.binds .any e = true → e.on < y) ∧ ∀ x, wt ms y x = true → ∃ e ∈ o.after, Region.binds .any e = true ∧ (e.on = x ∨ wt ms e.on x = true) := by
  unfold masksOk at hm
  rw [List.all_eq_true] at hm
  have h1 := hm y (List.mem_range.2 (Array.getElem?_eq_some_iff.1 ho).1)
  rw [ho] at h1
  simp only [Bool.and_eq_true, List.all_eq_true, Bool.or_eq_true, Bool.not_eq_true', decide_eq_true_eq, beq_iff_eq] at h1
  refine ⟨fun e he hb => (h1.1 e (Array.mem_toList_iff.2 he)).resolve_left (by simp [hb]), fun x hx => ?_⟩
  unfold wt at hx
  rw [h1.2] at hx
  obtain ⟨e, g1, g2⟩ := maskOf_bit ms x _ hx
  exact ⟨e, Array.mem_toList_iff.1 g1, g2⟩
/-- what an operation waits for has come before it -/
theorem wt_listed {ops : Array Oper} {ms : List Nat} {listed : Array Bool} (hm : masksOk ops ms = true) (hc : Closed ops listed) {x : Nat} : ∀ (y : Nat) (o : Oper), ops[y]? = some o → WaitsIn ops listed y → wt ms y x = true → listed.getD x false = true := by
  intro y
  induction y using Nat.strongRecOn with
  | _ y ih =>
    intro o ho hw hx
    obtain ⟨h1, h2⟩ := masks_at hm ho
    obtain ⟨e, he, hb, h3⟩ := h2 x hx
    have hl := hw o ho e he hb
    rcases h3 with rfl | h3
    · exact hl
    · have hlt := h1 e he hb
      cases ho' : ops[e.on]? with
      | none =>
        exfalso
        have := (Array.getElem?_eq_some_iff.1 ho).1
        have := Array.getElem?_eq_none_iff.1 ho'
        omega
      | some o' => exact ih e.on hlt o' ho' (fun o'' ho'' e' he' hb' => by rw [ho'] at ho''; cases ho''; exact hc e.on o' ho' hl e' he' hb') h3

/-! ### an order by which all others go -/
def lookB (ops : Array Oper) (o : Oper) : Option Tmp → Bool
  | some d => (o.looksAt ops).contains d
  | none => false
def dstNe (x y : Oper) : Bool := match x.dst with
  | some d => y.dst != some d
  | none => true
def waitsB (o : Oper) (j : Nat) : Bool := o.after.toList.any fun e => Region.binds .any e && e.on == j
/-- x stands before y -/
def okP (ops : Array Oper) (ms : List Nat) (wl : WL) (x y : Nat) : Bool := match ops[x]?, ops[y]? with
  | some ox, some oy => x != y && !waitsB ox y && (kindAt wl y oy != .anch || wt ms y x) && (!(kindAt wl y oy == .read && (kindAt wl x ox == .anch && !still ox || kindAt wl x ox == .make)) || wt ms y x) &&
      (kindAt wl x ox == .anch && kindAt wl y oy == .anch || dstNe ox oy) && (kindAt wl x ox == .anch || kindAt wl y oy == .anch || !lookB ops ox oy.dst) && (kindAt wl y oy == .anch || wt ms y x || !lookB ops oy ox.dst)
  | _, _ => false
def pairsOk (ops : Array Oper) (ms : List Nat) (wl : WL) : List Nat → Bool
  | [] => true
  | x :: r => (r.all fun y => okP ops ms wl x y) && pairsOk ops ms wl r
def actB (wl : WL) (x : Nat) (ox : Oper) : Bool := kindAt wl x ox == .anch && !still ox || kindAt wl x ox == .make
/-- between a made row and its late read nothing acts that the read does not wait for -/
def lmP (ops : Array Oper) (ms : List Nat) (wl : WL) (x : Nat) (r : List Nat) (y : Nat) : Bool := match mOf wl y with
  | some zm => r.contains zm.2 || zm.2 == x || wt ms y x || (match ops[x]? with | some ox => !actB wl x ox | none => false)
  | none => true
def lmOk (ops : Array Oper) (ms : List Nat) (wl : WL) : List Nat → Bool
  | [] => true
  | x :: r => (match mOf wl x with | some zm => !r.contains zm.2 | none => true) && (r.all fun y => lmP ops ms wl x r y) && lmOk ops ms wl r
def lmAll (ops : Array Oper) (wl : WL) (L : List Nat) : Bool := wl.m.all fun x => match ops[x.1]?, ops[x.2.1]?, ops[x.2.2]? with
  | some oi, some oz, some om => oi.guard.isNone && oz.guard.isNone && om.guard.isNone && waitsB oi x.2.1 && waitsB oz x.2.2 && kindAt wl x.2.1 oz == .calm && kindAt wl x.2.2 om == .make && L.contains x.2.1 && L.contains x.2.2 &&
    (match oi.op, oz.op, om.op with
      | .load _ (.tmp a), .indexAddr _ (.tmp b) _, .buildSlice _ _ _ => oz.dst == some a && om.dst == some b
      | _, _, _ => false)
  | _, _, _ => false
def loadB (o : Oper) : Bool := o.guard.isNone && match o.op with
  | .load _ _ => true
  | _ => false
def lateB (_ : Array Oper) (o : Oper) : Bool := o.guard.isNone && o.dst.isSome && match o.op with
  | .load _ (.tmp _) => true
  | _ => false
/-- L0: what the slots alone fix and what comes first; L: the rest -/
def orderOk (ops : Array Oper) (ms : List Nat) (wl : WL) (L0 L : List Nat) : Bool := Region.noSelect ops && masksOk ops ms && L0.length + L.length == ops.size && ((List.range ops.size).all fun j => L0.contains j || L.contains j) && (L.all fun j => decide (j < ops.size) && !L0.contains j) &&
  (L.all fun j => match ops[j]? with | some o => kindAt wl j o == .anch || !lookB ops o o.dst | none => false) && (wl.w.all fun j => match ops[j]? with | some o => loadB o | none => false) && (wl.l.all fun j => match ops[j]? with | some o => lateB ops o | none => false) && pairsOk ops ms wl L && (lmOk ops ms wl L && lmAll ops wl L)
structure OrderOk (ops : Array Oper) (ms : List Nat) (wl : WL) (L0 L : List Nat) : Prop where
  sel : Region.noSelect ops = true
  mso : masksOk ops ms = true
  len : L0.length + L.length = ops.size
  all : ∀ j, j < ops.size → j ∈ L0 ∨ j ∈ L
  lt : ∀ j ∈ L, j < ops.size
  dis : ∀ j ∈ L, j ∉ L0
  own : ∀ (j : Nat) (o : Oper), j ∈ L → ops[j]? = some o → kindAt wl j o ≠ .anch → ∀ d, o.dst = some d → d ∉ o.looksAt ops
  wlo : ∀ j ∈ wl.w, ∃ o t x, ops[j]? = some o ∧ o.op = .load t x ∧ o.guard = none
  llo : ∀ j ∈ wl.l, ∃ o t x d, ops[j]? = some o ∧ o.op = .load t (.tmp x) ∧ o.guard = none ∧ o.dst = some d
  pairs : L.Pairwise fun x y => okP ops ms wl x y = true
  lmk : lmOk ops ms wl L = true
  mlo : ∀ i z m, mOf wl i = some (z, m) → ∃ oi oz om ti tz tm x y ix n ps, ops[i]? = some oi ∧ ops[z]? = some oz ∧ ops[m]? = some om ∧ oi.op = .load ti (.tmp x) ∧ oz.op = .indexAddr tz (.tmp y) ix ∧ om.op = .buildSlice tm n ps ∧
    oz.dst = some x ∧ om.dst = some y ∧ oi.guard = none ∧ oz.guard = none ∧ om.guard = none ∧ waitsB oi z = true ∧ waitsB oz m = true ∧ kindAt wl z oz = .calm ∧ kindAt wl m om = .make ∧ z ∈ L ∧ m ∈ L
theorem pairsOk_spec {ops : Array Oper} {ms : List Nat} {wl : WL} : ∀ {L : List Nat}, pairsOk ops ms wl L = true → L.Pairwise fun x y => okP ops ms wl x y = true
  | [], _ => .nil
  | x :: r, h => by
    simp only [pairsOk, Bool.and_eq_true, List.all_eq_true] at h
    exact .cons h.1 (pairsOk_spec h.2)
theorem lmAll_spec {ops : Array Oper} {wl : WL} {L : List Nat} (h : lmAll ops wl L = true) {i z m : Nat} (hm : mOf wl i = some (z, m)) : ∃ oi oz om ti tz tm x y ix n ps, ops[i]? = some oi ∧ ops[z]? = some oz ∧ ops[m]? = some om ∧ oi.op = .load ti (.tmp x) ∧ oz.op = .indexAddr tz (.tmp y) ix ∧ om.op = .buildSlice tm n ps ∧
    oz.dst = some x ∧ om.dst = some y ∧ oi.guard = none ∧ oz.guard = none ∧ om.guard = none ∧ waitsB oi z = true ∧ waitsB oz m = true ∧ kindAt wl z oz = .calm ∧ kindAt wl m om = .make ∧ z ∈ L ∧ m ∈ L := by
  unfold mOf at hm
  obtain ⟨x, hx, e⟩ := Option.map_eq_some_iff.1 hm
  have hi : x.1 = i := by simpa using List.find?_some hx
  obtain ⟨x1, x2, x3⟩ := x
  simp only at hi e
  subst hi
  cases e
  unfold lmAll at h
  have h1 := List.all_eq_true.1 h _ (List.mem_of_find?_eq_some hx)
  simp only at h1
  split at h1
  · rename_i oi oz om e1 e2 e3
    simp only [Bool.and_eq_true, Option.isNone_iff_eq_none, beq_iff_eq, List.contains_iff_mem] at h1
    obtain ⟨⟨⟨⟨⟨⟨⟨⟨⟨g1, g2⟩, g3⟩, g4⟩, g5⟩, g6⟩, g7⟩, g8⟩, g9⟩, g10⟩ := h1
    split at g10
    · rename_i ti a tz b ix tm n ps p1 p2 p3
      simp only [Bool.and_eq_true, beq_iff_eq] at g10
      exact ⟨oi, oz, om, ti, tz, tm, a, b, ix, n, ps, e1, e2, e3, p1, p2, p3, g10.1, g10.2, g1, g2, g3, g4, g5, g6, g7, g8, g9⟩
    · cases g10
  · cases h1
theorem lmOk_at {ops : Array Oper} {ms : List Nat} {wl : WL} : ∀ {D : List Nat} {x : Nat} {r : List Nat}, lmOk ops ms wl (D ++ x :: r) = true → (∀ zm, mOf wl x = some zm → zm.2 ∉ r) ∧
    ∀ y ∈ r, ∀ zm, mOf wl y = some zm → zm.2 ∈ r ∨ zm.2 = x ∨ wt ms y x = true ∨ ∃ ox, ops[x]? = some ox ∧ actB wl x ox = false
  | [], x, r, h => by
    simp only [List.nil_append, lmOk, Bool.and_eq_true, List.all_eq_true] at h
    obtain ⟨⟨h1, h2⟩, _⟩ := h
    refine ⟨fun zm hz hc => ?_, fun y hy zm hz => ?_⟩
    · rw [hz] at h1
      simp [hc] at h1
    · have h3 := h2 y hy
      unfold lmP at h3
      rw [hz] at h3
      simp only [Bool.or_eq_true, List.contains_iff_mem, beq_iff_eq] at h3
      rcases h3 with ((h3 | h3) | h3) | h3
      · exact .inl h3
      · exact .inr (.inl h3)
      · exact .inr (.inr (.inl h3))
      · split at h3
        · rename_i ox e; exact .inr (.inr (.inr ⟨ox, e, by simpa using h3⟩))
        · cases h3
  | _ :: D, x, r, h => by
    simp only [List.cons_append, lmOk, Bool.and_eq_true] at h
    exact lmOk_at h.2
theorem orderOk_spec {ops : Array Oper} {ms : List Nat} {wl : WL} {L0 L : List Nat} (h : orderOk ops ms wl L0 L = true) : OrderOk ops ms wl L0 L := by
  simp only [orderOk, Bool.and_eq_true, beq_iff_eq, List.all_eq_true, List.mem_range, Bool.or_eq_true, List.contains_iff_mem, decide_eq_true_eq] at h
  obtain ⟨⟨⟨⟨⟨⟨⟨⟨⟨h1, h2⟩, h3⟩, h4⟩, h5⟩, h7⟩, h8⟩, h9⟩, h6⟩, h10, h11⟩ := h
  refine ⟨h1, h2, h3, h4, fun j hj => (h5 j hj).1, fun j hj hc => by have := (h5 j hj).2; simp [hc] at this, fun j o hj ho hk d hd hc => ?_, fun j hj => ?_, fun j hj => ?_, pairsOk_spec h6, h10, fun i z m hm => lmAll_spec h11 hm⟩
  · have := h7 j hj
    simp [ho, hk, lookB, hd] at this
    exact this hc
  · have := h8 j hj
    split at this
    · rename_i o ho
      unfold loadB at this
      simp only [Bool.and_eq_true, Option.isNone_iff_eq_none] at this
      obtain ⟨g1, g2⟩ := this
      split at g2
      · rename_i t x e; exact ⟨o, t, x, ho, e, g1⟩
      · cases g2
    · cases this
  · have := h9 j hj
    split at this
    · rename_i o ho
      unfold lateB at this
      simp only [Bool.and_eq_true, Option.isNone_iff_eq_none] at this
      obtain ⟨⟨g1, g3⟩, g2⟩ := this
      obtain ⟨d, hd⟩ := Option.isSome_iff_exists.1 g3
      split at g2
      · rename_i t x e; exact ⟨o, t, x, d, ho, e, g1, hd⟩
      · cases g2
    · cases this

structure OkP (ops : Array Oper) (ms : List Nat) (wl : WL) (x y : Nat) (ox oy : Oper) : Prop where
  ne : x ≠ y
  now : ∀ e ∈ ox.after, Region.binds .any e = true → e.on ≠ y
  anch : kindAt wl y oy = .anch → wt ms y x = true
  read : kindAt wl y oy = .read → (kindAt wl x ox = .anch ∧ still ox = false) ∨ kindAt wl x ox = .make → wt ms y x = true
  dst : kindAt wl x ox ≠ .anch ∨ kindAt wl y oy ≠ .anch → ∀ d, ox.dst = some d → oy.dst ≠ some d
  hz1 : kindAt wl x ox ≠ .anch → kindAt wl y oy ≠ .anch → ∀ d, oy.dst = some d → d ∉ ox.looksAt ops
  hz2 : kindAt wl y oy ≠ .anch → wt ms y x = false → ∀ d, ox.dst = some d → d ∉ oy.looksAt ops
theorem okP_spec {ops : Array Oper} {ms : List Nat} {wl : WL} {x y : Nat} (h : okP ops ms wl x y = true) : ∃ ox oy, ops[x]? = some ox ∧ ops[y]? = some oy ∧ OkP ops ms wl x y ox oy := by
  unfold okP at h
  split at h
  · rename_i ox oy e1 e2
    refine ⟨ox, oy, e1, e2, ?_⟩
    simp only [Bool.and_eq_true, Bool.or_eq_true, bne_iff_ne, beq_iff_eq, Bool.not_eq_true', ne_eq, Bool.and_eq_false_iff, Bool.or_eq_false_iff, beq_eq_false_iff_ne, Bool.not_eq_false'] at h
    obtain ⟨⟨⟨⟨⟨⟨h1, h2⟩, h3⟩, h4⟩, h5⟩, h6⟩, h7⟩ := h
    refine ⟨h1, fun e he hb heq => ?_, fun hk => h3.resolve_left (fun hn => hn hk), fun hk hx => ?_, fun hk d hd he => ?_, fun hx hy d hd hc => ?_, fun hy hw d hd hc => ?_⟩
    · have : waitsB ox y = true := by
        unfold waitsB
        rw [List.any_eq_true]
        exact ⟨e, Array.mem_toList_iff.2 he, by simp [hb, heq]⟩
      rw [this] at h2; cases h2
    · rcases h4 with (h4 | h4) | h4
      · exact absurd hk h4
      · rcases hx with hx | hx
        · rcases h4.1 with h0 | h0
          · exact absurd hx.1 h0
          · rw [hx.2] at h0; cases h0
        · exact absurd hx h4.2
      · exact h4
    · rcases h5 with h5 | h5
      · rcases hk with hk | hk
        · exact hk h5.1
        · exact hk h5.2
      · simp [dstNe, hd] at h5
        exact h5 he
    · rcases h6 with (h6 | h6) | h6
      · exact hx h6
      · exact hy h6
      · simp [lookB, hd] at h6; exact h6 hc
    · rcases h7 with (h7 | h7) | h7
      · exact hy h7
      · rw [hw] at h7; cases h7
      · simp [lookB, hd] at h7; exact h7 hc
  · cases h

/-! ### reads that are watched -/
def watchB (P : Program) (H : AHeap) (F : AFrame) : List (Op × AV) → Prop
  | [] => True
  | (op, v) :: r => apure P H F op (fun v' => v' = v) ∧ watchB P H F r
/-- rows that stay as they are -/
def keepB (H : AHeap) : List (Nat × ABlk) → Prop
  | [] => True
  | (b, k) :: r => H.b b = some k ∧ keepB H r
/-- an address into a row that stays -/
def lateV (kb : List (Nat × ABlk)) : AV → Prop
  | .c (.ptr b _ _) => kb.any (fun p => p.1 == b) = true
  | _ => False
def lateOp (F : AFrame) (kb : List (Nat × ABlk)) : Op → Prop
  | .load _ (.tmp x) => onv (F.get x) (lateV kb)
  | _ => False
/-- slots that a late read writes -/
def lateD (lt : List Tmp) : Option Tmp → Bool
  | some d => lt.contains d
  | none => false
def lateC (P : Program) (H : AHeap) (F : AFrame) (kb : List (Nat × ABlk)) (lt : List Tmp) (d : Option Tmp) (op : Op) : Prop := lateD lt d = true → lateOp F kb op ∧ apure P H F op (fun v => plainV v = true)
def aopsW (P : Program) (Γ : Env) (N : Nat) (ws : List (Op × AV)) (kb : List (Nat × ABlk)) (lt : List Tmp) : List POp → AFrame → AHeap → (AFrame → AHeap → Prop) → Prop
  | [], F, H, K => K F H
  | o :: r, F, H, K => (watchB P H F ws ∧ keepB H kb ∧ lateC P H F kb lt o.dst o.op) ∧ dstOk N o.dst ∧ aguard F o.guard (astep P Γ H F o.op fun v H' => aopsW P Γ N ws kb lt r (F.put o.dst v) H' K) (aopsW P Γ N ws kb lt r (F.put o.dst (.tup [])) H K)
/-- what a value may name: blocks below a number -/
def lowC (n : Nat) : AC → Prop
  | .ptr b _ _ => b < n
  | .sl b _ _ => b < n
  | .fn _ caps => ∀ b ∈ caps, b < n
  | _ => True
def lowL (n : Nat) : List AC → Prop
  | [] => True
  | x :: r => lowC n x ∧ lowL n r
/-- a value that stays as it is when blocks are added -/
def heldV (n : Nat) : AV → Prop
  | .c x => plainC x = true ∨ lowC n x
  | .agg xs => xs.all plainC = true ∨ lowL n xs
  | .tup xs => plainV (.tup xs) = true
theorem lowC_rep {φ φ' : Nat → Place} {n m m' : Nat} (ha : ∀ b, b < n → φ' b = φ b) (hm : n ≤ m') {x : AC} {u : Value} (hl : lowC n x) (h : RepC φ m x u) : RepC φ' m' x u := by
  cases x with
  | ptr b i j => exact ⟨Nat.lt_of_lt_of_le hl hm, by rw [ha b hl]; exact h.2⟩
  | sl b i k => exact ⟨Nat.lt_of_lt_of_le hl hm, by rw [ha b hl]; exact h.2⟩
  | fn f caps =>
    refine ⟨fun b hb => Nat.lt_of_lt_of_le (hl b hb) hm, ?_⟩
    rw [h.2]
    congr 2
    exact List.map_congr_left fun b hb => by rw [ha b (hl b hb)]
  | _ => exact h
theorem lowL_rep {φ φ' : Nat → Place} {n m m' : Nat} (ha : ∀ b, b < n → φ' b = φ b) (hm : n ≤ m') : ∀ {xs : List AC} {us : List Value}, lowL n xs → RepL φ m xs us → RepL φ' m' xs us
  | [], [], _, _ => trivial
  | _ :: _, _ :: _, hl, h => ⟨lowC_rep ha hm hl.1 h.1, lowL_rep ha hm hl.2 h.2⟩
  | [], _ :: _, _, h => h.elim
  | _ :: _, [], _, h => h.elim
theorem heldV_rep {φ φ' : Nat → Place} {n m m' : Nat} (ha : ∀ b, b < n → φ' b = φ b) (hm : n ≤ m') {v : AV} {u : Value} (hv : heldV n v) (h : RepV φ m v u) : RepV φ' m' v u := by
  cases v with
  | c x =>
    rcases hv with hv | hv
    · exact plainV_mono (x := .c x) hv h
    · exact lowC_rep ha hm hv h
  | agg xs =>
    rcases hv with hv | hv
    · exact plainV_mono (x := .agg xs) hv h
    · obtain ⟨us, h1, h2⟩ := h
      exact ⟨us, h1, lowL_rep ha hm hv h2⟩
  | tup xs => exact plainV_mono hv h
def wstart (P : Program) (H : AHeap) (F : AFrame) : List Op → (List (Op × AV) → Prop) → Prop
  | [], K => K []
  | op :: r, K => apure P H F op fun v => heldV H.n v ∧ wstart P H F r fun ws => K ((op, v) :: ws)
def blkV (K : Nat → Prop) : AV → Prop
  | .c (.sl b _ _) => K b
  | .c (.ptr b _ _) => K b
  | _ => False
/-- the rows that stand in some slots -/
def kstart (H : AHeap) (F : AFrame) : List Tmp → (List (Nat × ABlk) → Prop) → Prop
  | [], K => K []
  | t :: r, K => onv (F.get t) (blkV fun b => onv (H.b b) fun k => kstart H F r fun kb => K ((b, k) :: kb))
theorem kstart_spec : ∀ (l : List Tmp) {X : List (Nat × ABlk) → Prop}, kstart H F l X → ∃ kb, keepB H kb ∧ X kb
  | [], _, h => ⟨[], trivial, h⟩
  | t :: r, X, h => by
    obtain ⟨v, _, h⟩ := onv_iff.1 h
    have key : ∀ b, onv (H.b b) (fun k => kstart H F r fun kb => X ((b, k) :: kb)) → ∃ kb, keepB H kb ∧ X kb := fun b hb => by
      obtain ⟨k, hk, hb⟩ := onv_iff.1 hb
      obtain ⟨kb, h1, h2⟩ := kstart_spec r hb
      exact ⟨(b, k) :: kb, ⟨hk, h1⟩, h2⟩
    unfold blkV at h
    split at h
    · exact key _ h
    · exact key _ h
    · exact h.elim
theorem keepB_mem {H : AHeap} {kb : List (Nat × ABlk)} (h : keepB H kb) : ∀ p ∈ kb, H.b p.1 = some p.2 := by
  induction kb with
  | nil => intro p hp; cases hp
  | cons y r ih =>
    intro p hp
    rcases List.mem_cons.1 hp with rfl | hp
    · exact h.1
    · exact ih h.2 p hp
theorem watchB_mem {ws : List (Op × AV)} (h : watchB P H F ws) : ∀ x ∈ ws, apure P H F x.1 (fun v' => v' = x.2) := by
  induction ws with
  | nil => intro x hx; cases hx
  | cons y r ih =>
    intro x hx
    rcases List.mem_cons.1 hx with rfl | hx
    · exact h.1
    · exact ih h.2 x hx
/-- what a read gives depends on the row alone -/
theorem load_of {t : TypeId} {x : Tmp} {K : AV → Prop} {b i j : Nat} (h : apure P H F (.load t (.tmp x)) K) (hx : F.get x = some (.c (.ptr b i j))) :
    ∃ v, K v ∧ ∀ (H' : AHeap) (F' : AFrame), H'.b b = H.b b → F'.get x = some (.c (.ptr b i j)) → apure P H' F' (.load t (.tmp x)) (fun v' => v' = v) := by
  simp only [apure, opnd] at h ⊢
  obtain ⟨v, hv, h⟩ := onv_iff.1 h
  rw [hx] at hv
  cases hv
  obtain ⟨k, hk, h⟩ := onv_iff.1 (show onv (H.b b) _ from h)
  obtain ⟨tk, ht, h⟩ := onv_iff.1 h
  cases tk with
  | cell =>
    obtain ⟨e, he, h⟩ := onv_iff.1 h
    obtain ⟨y, hy, h⟩ := onv_iff.1 h
    exact ⟨_, h, fun H' F' h1 h2 => onv_iff.2 ⟨_, h2, onv_iff.2 ⟨k, h1.trans hk, onv_iff.2 ⟨_, ht, onv_iff.2 ⟨e, he, onv_iff.2 ⟨y, hy, rfl⟩⟩⟩⟩⟩⟩
  | obj n =>
    obtain ⟨h1, h2, h⟩ := h
    obtain ⟨e, he, h⟩ := onv_iff.1 h
    exact ⟨_, h, fun H' F' g1 g2 => onv_iff.2 ⟨_, g2, onv_iff.2 ⟨k, g1.trans hk, onv_iff.2 ⟨_, ht, h1, h2, onv_iff.2 ⟨e, he, rfl⟩⟩⟩⟩⟩
  | arr n =>
    obtain ⟨h1, h2, h3, h⟩ := h
    exact ⟨_, h, fun H' F' g1 g2 => onv_iff.2 ⟨_, g2, onv_iff.2 ⟨k, g1.trans hk, onv_iff.2 ⟨_, ht, h1, h2, h3, rfl⟩⟩⟩⟩
/-- a read depends on the block it reads alone -/
theorem load_at {o : Oper} {t : TypeId} {x : Operand} {K : AV → Prop} (ho : o.op = .load t x) (hH : HRep φ B H w) (hF : FRep φ H.n F a.tmps) (h : apure P H F (.load t x) K) :
    ∃ v u p, K v ∧ RepV φ H.n v u ∧ a.eval x = .pointer (some p) ∧ ((∀ w', (execOp a.eval o).run P w' = .ok (.value u) w') ∨ ∃ c, w.heap[p.block]? = some c ∧ ∀ w' : World, w'.heap[p.block]? = some c → (execOp a.eval o).run P w' = .ok (.value u) w') := by
  simp only [apure] at h
  obtain ⟨v, hv, h⟩ := onv_iff.1 h
  have he := eval_of hF hv
  split at h
  · rename_i b i j
    obtain ⟨hb, hx⟩ := (show RepC φ H.n (.ptr b i j) _ from he)
    obtain ⟨k, hk, h⟩ := onv_iff.1 h
    obtain ⟨tk, ht, h⟩ := onv_iff.1 h
    have hc := hH.cells b k hk
    have keep : ∀ {c : Obj} {w' : World} {i j : Nat} {u : Value}, w.heap[(φ b).blk]? = some c → w'.heap[(φ b).blk]? = some c → w.cell? ((φ b).adr i j) = some u → w'.cell? ((φ b).adr i j) = some u := fun h1 h2 h3 => by
      unfold World.cell? at h3 ⊢
      simp only [Place.adr] at h3 ⊢
      rw [h1] at h3
      rw [h2]
      exact h3
    have some1 : ∀ {i j : Nat} {u : Value}, w.cell? ((φ b).adr i j) = some u → ∃ c, w.heap[(φ b).blk]? = some c := fun h3 => by
      unfold World.cell? at h3
      simp only [Place.adr] at h3
      split at h3
      · rename_i g'; exact ⟨_, g'⟩
      · cases h3
    have keepL : ∀ {vs : List Value} {i : Nat}, (∀ j v, vs[j]? = some v → w.cell? ((φ b).adr i j) = some v) → vs = [] ∨ ∃ c, w.heap[(φ b).blk]? = some c ∧ ∀ w' : World, w'.heap[(φ b).blk]? = some c → ∀ j v, vs[j]? = some v → w'.cell? ((φ b).adr i j) = some v := fun {vs i} hv => by
      cases vs with
      | nil => exact .inl rfl
      | cons y r =>
        obtain ⟨c, hc0⟩ := some1 (hv 0 y rfl)
        exact .inr ⟨c, hc0, fun w' hw' j v hj => keep hc0 hw' (hv j v hj)⟩
    cases tk with
    | cell =>
      obtain ⟨e, h1, h⟩ := onv_iff.1 h
      obtain ⟨y, h2, h⟩ := onv_iff.1 h
      obtain ⟨u, h3, h4⟩ := hc.cell i e h1 j y h2
      obtain ⟨c, hc0⟩ := some1 h3
      refine ⟨.c y, u, _, h, h4, hx, .inr ⟨c, hc0, fun w' hb' => ?_⟩⟩
      simp [execOp, ho, hx, Instr.loadAt, Instr.sureAddr, run_loadVar_cell (tyK_cell ht) (keep hc0 hb' h3)]
    | obj n =>
      obtain ⟨rfl, rfl, h⟩ := h
      obtain ⟨e, h1, h⟩ := onv_iff.1 h
      obtain ⟨vs, h3, h4⟩ := hc.elem h1
      obtain ⟨fs, inf, g1, g2, g3⟩ := tyK_obj ht
      have hl : vs.length = k.esz := by rw [h3.length]; exact hc.len i e h1
      have run : ∀ w' : World, (∀ j v, vs[j]? = some v → w'.cell? ((φ b).adr i j) = some v) → (execOp a.eval o).run P w' = .ok (.value (.agg vs.toArray)) w' := fun w' hw' => by
        have := run_loadAt_mid (P := P) w' (φ b).blk ((φ b).off + i * (φ b).esz + 0) t vs _ (fun j v hv => by
          have := hw' j v hv
          simpa [Place.adr] using this) g1 rfl (by simp [g2, g3, hl])
        simp only [execOp, ho, hx, Place.adr, Sem.run_bind, this, Result.andThen_ok, Sem.run_pure]
      refine ⟨.agg e, .agg vs.toArray, _, h, ⟨vs, rfl, h3⟩, hx, ?_⟩
      rcases keepL h4 with rfl | ⟨c, hc0, hk'⟩
      · exact .inl fun w' => run w' fun j v hv => by simp at hv
      · exact .inr ⟨c, hc0, fun w' hw' => run w' (hk' w' hw')⟩
    | arr n =>
      obtain ⟨rfl, h1, h2, h⟩ := h
      obtain ⟨vs, h3, h4, h5⟩ := hc.rowOf n i h2
      obtain ⟨e, inf, g1, g2, g3, _⟩ := tyK_arr ht
      have run : ∀ w' : World, (∀ j v, vs[j]? = some v → w'.cell? ((φ b).adr i j) = some v) → (execOp a.eval o).run P w' = .ok (.value (.agg vs.toArray)) w' := fun w' hw' => by
        have := run_loadAt_mid (P := P) w' (φ b).blk ((φ b).off + i * (φ b).esz + 0) t vs _ (fun j v hv => by
          have := hw' j v hv
          simpa [Place.adr] using this) g1 rfl (by simp [g2, g3, h4, h1])
        simp only [execOp, ho, hx, Place.adr, Sem.run_bind, this, Result.andThen_ok, Sem.run_pure]
      refine ⟨_, .agg vs.toArray, _, h, ⟨vs, rfl, h3⟩, hx, ?_⟩
      rcases keepL h5 with rfl | ⟨c, hc0, hk'⟩
      · exact .inl fun w' => run w' fun j v hv => by simp at hv
      · exact .inr ⟨c, hc0, fun w' hw' => run w' (hk' w' hw')⟩
  · exact h.elim
theorem idx_dep {t : TypeId} {q : Addr} {n c : Nat} {iv u : Value} {w' : World} (h : (Instr.indexAt t (.slice (some q) n c) iv).run P w = .ok u w') : ∃ p, u = .pointer (some p) ∧ p.block = q.block := by
  unfold Instr.indexAt at h
  rw [Sem.run_bind] at h
  cases hi : (asIntOf iv).run P w with
  | halt x w1 => rw [hi] at h; cases h
  | ok r w1 =>
    rw [hi] at h
    obtain ⟨k, i⟩ := r
    cases hu : P.underlying t with
    | none => simp [underlying, hu] at h
    | some d =>
      simp only [Result.andThen_ok, Sem.run_bind, run_underlying hu] at h
      cases d with
      | slice elem =>
        simp only [Sem.run_bind, Sem.run_pure, Result.andThen_ok, Sem.run_ite, run_underlying hu] at h
        split at h
        · simp only [sizeOf, typeInfo, Sem.run_bind, run_program, Result.andThen_ok] at h
          cases hinf : P.info? elem with
          | none => simp [hinf] at h
          | some inf =>
            simp [hinf] at h
            exact ⟨_, h.1.symm, by simp only [Addr.add]; split <;> rfl⟩
        · exfalso
          simp [boundsPanic, runtimePanic] at h
          repeat' split at h
          all_goals cases h
      | array m elem => simp [Instr.sureAddr] at h
      | _ => simp at h
theorem load_and {t : TypeId} {x : Operand} {K K' : AV → Prop} (h : apure P H F (.load t x) K) (h' : apure P H F (.load t x) K') : apure P H F (.load t x) fun v => K v ∧ K' v := by
  simp only [apure] at h h' ⊢
  obtain ⟨v, hv, h⟩ := onv_iff.1 h
  rw [hv] at h' ⊢
  simp only [onv_some] at h' ⊢
  split at h
  · obtain ⟨k, hk, h⟩ := onv_iff.1 h
    obtain ⟨k', hk', h'⟩ := onv_iff.1 (show onv (H.b _) _ from h')
    rw [hk] at hk'; cases hk'
    obtain ⟨tk, ht, h⟩ := onv_iff.1 h
    obtain ⟨tk', ht', h'⟩ := onv_iff.1 h'
    rw [ht] at ht'; cases ht'
    refine onv_iff.2 ⟨k, hk, onv_iff.2 ⟨tk, ht, ?_⟩⟩
    cases tk with
    | cell =>
      obtain ⟨e, he, h⟩ := onv_iff.1 h
      obtain ⟨e', he', h'⟩ := onv_iff.1 h'
      rw [he] at he'; cases he'
      obtain ⟨y, hy, h⟩ := onv_iff.1 h
      obtain ⟨y', hy', h'⟩ := onv_iff.1 h'
      rw [hy] at hy'; cases hy'
      exact onv_iff.2 ⟨e, he, onv_iff.2 ⟨y, hy, h, h'⟩⟩
    | obj n =>
      obtain ⟨h1, h2, h⟩ := h
      obtain ⟨_, _, h'⟩ := h'
      obtain ⟨e, he, h⟩ := onv_iff.1 h
      obtain ⟨e', he', h'⟩ := onv_iff.1 h'
      rw [he] at he'; cases he'
      exact ⟨h1, h2, onv_iff.2 ⟨e, he, h, h'⟩⟩
    | arr n =>
      obtain ⟨h1, h2, h3, h⟩ := h
      obtain ⟨_, _, _, h'⟩ := h'
      exact ⟨h1, h2, h3, h, h'⟩
  · exact h.elim
end
end Go.Proofs.YtafenginfojcmaaGreatDoor
