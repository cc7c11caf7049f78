/- The abstract machine, part N: its equations, as rules for simp. Rules with an arrow look at the head alone, so that what is still to be run is left alone. No program is named here. -/
import Derived.Test.YtafenginfojcmaaGreatDoorAbsM
namespace Go.Proofs.YtafenginfojcmaaGreatDoor
open Go.RowKit

/-! what is still to be run is not looked into -/
@[congr] theorem onv_congr {α : Type} {o o' : Option α} {K : α → Prop} (h : o = o') : onv o K = onv o' K := by rw [h]
@[congr] theorem ALoop_congr {P : Program} {N n0 : Nat} {a : ACode} {F F' : AFrame} {H H' : AHeap} {Q : Exit → AFrame → AHeap → Prop} (hF : F = F') (hH : H = H') : ALoop P N n0 a F H Q = ALoop P N n0 a F' H' Q := by rw [hF, hH]

section
variable {P : Program} {Γ : Env} {N n0 : Nat} {F : AFrame} {H : AHeap} {Q : Exit → AFrame → AHeap → Prop}

theorem ite_and {a b : Prop} [Decidable a] : (if a then b else False) = (a ∧ b) := by by_cases h : a <;> simp [h]

/-- a slot, if it is there -/
def getM (S : AV → Prop) (E : Prop) : AFrame → Tmp → Prop
  | [], _ => E
  | (s, v) :: r, t => if s = t then S v else getM S E r t
@[simp ↓] theorem getM_nil (S : AV → Prop) (E : Prop) (t : Tmp) : getM S E [] t = E := rfl
@[simp ↓] theorem getM_cons (S : AV → Prop) (E : Prop) (s : Tmp) (v : AV) (r : AFrame) (t : Tmp) : getM S E ((s, v) :: r) t = if s = t then S v else getM S E r t := rfl
theorem getM_eq (S : AV → Prop) (E : Prop) (t : Tmp) : ∀ F : AFrame, getM S E F t = match F.get t with | some v => S v | none => E
  | [] => rfl
  | (s, v) :: r => by
    simp only [getM, AFrame.get]
    split
    · rfl
    · exact getM_eq S E t r
/-- the slots that are kept -/
def keepK (F : AFrame) : List Tmp → (AFrame → Prop) → Prop
  | [], K => K []
  | t :: r, K => getM (fun v => keepK F r fun G => K ((t, v) :: G)) (keepK F r K) F t
@[simp ↓] theorem keepK_nil (K : AFrame → Prop) : keepK F [] K = K [] := rfl
@[simp ↓] theorem keepK_cons (t : Tmp) (r : List Tmp) (K : AFrame → Prop) : keepK F (t :: r) K = getM (fun v => keepK F r fun G => K ((t, v) :: G)) (keepK F r K) F t := rfl
theorem keepK_eq : ∀ (l : List Tmp) (K : AFrame → Prop), keepK F l K = K (F.keep l)
  | [], _ => rfl
  | t :: r, K => by
    simp only [keepK, getM_eq, AFrame.keep]
    cases F.get t with
    | none => exact keepK_eq r K
    | some v => exact keepK_eq r _

@[simp ↓] theorem avc_skip : avc P Γ N n0 .skip F H Q = Q .normal F H := rfl
@[simp ↓] theorem avc_reg (l k) : avc P Γ N n0 (.reg l k) F H Q = aops P Γ N l F H fun F' H' => keepK F' k fun G => Q .normal G H' := by simp only [avc, keepK_eq]
/-- slots that are not there yet -/
def freshK (F : AFrame) (X : Prop) : List Tmp → Prop
  | [] => X
  | t :: r => getM (fun _ => False) (freshK F X r) F t
@[simp ↓] theorem freshK_nil (X : Prop) : freshK F X [] = X := rfl
@[simp ↓] theorem freshK_cons (X : Prop) (t : Tmp) (r : List Tmp) : freshK F X (t :: r) = getM (fun _ => False) (freshK F X r) F t := rfl
theorem freshK_eq (X : Prop) : ∀ l : List Tmp, freshK F X l = (fresh F l ∧ X)
  | [] => by simp [freshK, fresh]
  | t :: r => by
    simp only [freshK, getM_eq, fresh]
    cases F.get t with
    | none => simp [freshK_eq X r]
    | some v => simp
@[simp ↓] theorem avc_regF (hd fl ws ks lt l k) : avc P Γ N n0 (.regF hd fl ws ks lt l k) F H Q = aops P Γ N hd F H fun F' H' => freshK F' (wstart P H' F' ws fun vs => kstart H' F' ks fun kb => aopsW P Γ N vs kb lt l F' H' fun F'' H'' => keepK F'' k fun G => Q .normal G H'') fl := by simp only [avc, keepK_eq, freshK_eq]
@[simp ↓] theorem wstart_nil (K : List (Op × AV) → Prop) : wstart P H F [] K = K [] := rfl
@[simp ↓] theorem wstart_cons (op : Op) (r : List Op) (K : List (Op × AV) → Prop) : wstart P H F (op :: r) K = apure P H F op fun v => heldV H.n v ∧ wstart P H F r fun ws => K ((op, v) :: ws) := rfl
@[congr] theorem heldV_congr {n : Nat} {v v' : AV} (h : v = v') : heldV n v = heldV n v' := by rw [h]
@[simp] theorem heldV_int (n : Nat) (k : IntKind) (m : Int) : heldV n (.c (.int k m)) = True := eq_true (.inl rfl)
@[simp] theorem heldV_bool (n : Nat) (b : Bool) : heldV n (.c (.bool b)) = True := eq_true (.inl rfl)
@[simp] theorem heldV_str (n : Nat) (s : List UInt8) : heldV n (.c (.str s)) = True := eq_true (.inl rfl)
@[simp] theorem heldV_sl (n b i m : Nat) : heldV n (.c (.sl b i m)) = (b < n) := propext ⟨fun h => h.elim (fun h => by cases h) id, .inr⟩
@[simp] theorem heldV_ptr (n b i j : Nat) : heldV n (.c (.ptr b i j)) = (b < n) := propext ⟨fun h => h.elim (fun h => by cases h) id, .inr⟩
@[simp] theorem heldV_agg (n : Nat) (xs : List AC) : heldV n (.agg xs) = (xs.all plainC = true ∨ lowL n xs) := rfl
@[simp] theorem lowL_nil (n : Nat) : lowL n [] = True := rfl
@[simp] theorem lowL_cons (n : Nat) (x : AC) (r : List AC) : lowL n (x :: r) = (lowC n x ∧ lowL n r) := rfl
@[simp] theorem lowC_int (n : Nat) (k : IntKind) (m : Int) : lowC n (.int k m) = True := rfl
@[simp] theorem lowC_bool (n : Nat) (b : Bool) : lowC n (.bool b) = True := rfl
@[simp] theorem lowC_str (n : Nat) (s : List UInt8) : lowC n (.str s) = True := rfl
@[simp] theorem lowC_sl (n b i m : Nat) : lowC n (.sl b i m) = (b < n) := rfl
@[simp] theorem lowC_ptr (n b i j : Nat) : lowC n (.ptr b i j) = (b < n) := rfl
@[simp ↓] theorem watchB_nil : watchB P H F [] = True := rfl
@[simp ↓] theorem watchB_cons (op : Op) (v : AV) (r : List (Op × AV)) : watchB P H F ((op, v) :: r) = (apure P H F op (fun v' => v' = v) ∧ watchB P H F r) := rfl
@[simp ↓] theorem kstart_nil (K : List (Nat × ABlk) → Prop) : kstart H F [] K = K [] := rfl
@[simp ↓] theorem kstart_cons (t : Tmp) (r : List Tmp) (K : List (Nat × ABlk) → Prop) : kstart H F (t :: r) K = getM (blkV fun b => onv (H.b b) fun k => kstart H F r fun kb => K ((b, k) :: kb)) False F t := by simp only [kstart, getM_eq]; cases F.get t <;> rfl
@[simp ↓] theorem blkV_sl (K : Nat → Prop) (b i n : Nat) : blkV K (.c (.sl b i n)) = K b := rfl
@[simp ↓] theorem blkV_ptr (K : Nat → Prop) (b i n : Nat) : blkV K (.c (.ptr b i n)) = K b := rfl
@[congr] theorem blkV_congr {K : Nat → Prop} {v v' : AV} (h : v = v') : blkV K v = blkV K v' := by rw [h]
@[simp ↓] theorem keepB_nil : keepB H [] = True := rfl
@[simp ↓] theorem keepB_cons (b : Nat) (k : ABlk) (r : List (Nat × ABlk)) : keepB H ((b, k) :: r) = (onv (H.b b) (fun k' => k' = k) ∧ keepB H r) := propext ⟨fun h => ⟨onv_iff.2 ⟨k, h.1, rfl⟩, h.2⟩, fun h => ⟨by obtain ⟨k', h1, h2⟩ := onv_iff.1 h.1; rw [h1, h2], h.2⟩⟩
theorem lateC_nil (d : Option Tmp) (op : Op) (kb : List (Nat × ABlk)) : lateC P H F kb [] d op = True := eq_true fun h => by cases d <;> cases h
/-- the marked slots by their numbers -/
def lateK (P : Program) (H : AHeap) (F : AFrame) (kb : List (Nat × ABlk)) (op : Op) : Bool → Prop
  | true => (match op with | .load _ (.tmp x) => getM (lateV kb) False F x | _ => False) ∧ apure P H F op (fun v => plainV v = true)
  | false => True
@[congr] theorem lateK_congr {kb : List (Nat × ABlk)} {op : Op} {v v' : Bool} (h : v = v') : lateK P H F kb op v = lateK P H F kb op v' := by rw [h]
@[simp ↓] theorem lateK_false (kb : List (Nat × ABlk)) (op : Op) : lateK P H F kb op false = True := rfl
@[simp ↓] theorem lateK_true (kb : List (Nat × ABlk)) (t : TypeId) (x : Tmp) : lateK P H F kb (.load t (.tmp x)) true = (getM (lateV kb) False F x ∧ apure P H F (.load t (.tmp x)) (fun v => plainV v = true)) := rfl
@[simp ↓] theorem lateV_ptr (kb : List (Nat × ABlk)) (b i j : Nat) : lateV kb (.c (.ptr b i j)) = (kb.any (fun p => p.1 == b) = true) := rfl
@[congr] theorem lateV_congr {kb : List (Nat × ABlk)} {v v' : AV} (h : v = v') : lateV kb v = lateV kb v' := by rw [h]
theorem lateK_eq (kb : List (Nat × ABlk)) (lt : List Tmp) (d : Option Tmp) (op : Op) : lateC P H F kb lt d op = lateK P H F kb op (lateD lt d) := by
  unfold lateC
  cases lateD lt d with
  | false => simp [lateK]
  | true =>
    simp only [true_implies, lateK, eq_iff_iff]
    refine and_congr_left' ?_
    cases op with
    | load t x => cases x <;> first | (rename_i y; simp only [lateOp, getM_eq]; cases F.get y <;> exact Iff.rfl) | exact Iff.rfl
    | _ => rfl
@[simp] theorem lateD_some (lt : List Tmp) (d : Tmp) : lateD lt (some d) = lt.contains d := rfl
@[simp] theorem lateD_none (lt : List Tmp) : lateD lt none = false := rfl
theorem aopsW_no : ∀ (l : List POp) (F : AFrame) (H : AHeap) (K : AFrame → AHeap → Prop), aopsW P Γ N [] [] [] l F H K = aops P Γ N l F H K
  | [], _, _, _ => rfl
  | o :: r, F, H, K => by simp only [aopsW, aops, watchB, keepB, lateC_nil, true_and, aopsW_no r]
@[simp ↓ high] theorem aopsW_none (l : List POp) (K : AFrame → AHeap → Prop) : aopsW P Γ N [] [] [] l F H K = aops P Γ N l F H K := aopsW_no l F H K
@[simp ↓] theorem aopsW_nil (ws : List (Op × AV)) (kb : List (Nat × ABlk)) (lt : List Tmp) (K : AFrame → AHeap → Prop) : aopsW P Γ N ws kb lt [] F H K = K F H := rfl
@[simp ↓] theorem aopsW_cons (w : Op × AV) (ws : List (Op × AV)) (o : POp) (r : List POp) (K : AFrame → AHeap → Prop) : aopsW P Γ N (w :: ws) [] [] (o :: r) F H K = (watchB P H F (w :: ws) ∧ aops P Γ N [o] F H fun F' H' => aopsW P Γ N (w :: ws) [] [] r F' H' K) := by simp only [aopsW, aops, lateC_nil, keepB, and_true]
@[simp ↓] theorem aopsW_consL (ws : List (Op × AV)) (p : Nat × ABlk) (kb : List (Nat × ABlk)) (lt : List Tmp) (o : POp) (r : List POp) (K : AFrame → AHeap → Prop) : aopsW P Γ N ws (p :: kb) lt (o :: r) F H K = (watchB P H F ws ∧ keepB H (p :: kb) ∧ lateK P H F (p :: kb) o.op (lateD lt o.dst) ∧ aops P Γ N [o] F H fun F' H' => aopsW P Γ N ws (p :: kb) lt r F' H' K) := by simp only [aopsW, aops, lateK_eq, and_assoc]
@[simp ↓] theorem avc_regT (l m k) : avc P Γ N n0 (.regT l m k) F H Q = aopsQ P Γ N H l F fun F' => aops P Γ N m F' H fun F'' H'' => keepK F'' k fun G => Q .normal G H'' := by simp only [avc, keepK_eq]
@[simp ↓] theorem avc_regQ (l k) : avc P Γ N n0 (.regQ l k) F H Q = aopsQ P Γ N H l F fun F' => keepK F' k fun G => Q .normal G H := by simp only [avc, keepK_eq]
theorem avc_cut (k a) : avc P Γ N n0 (.cut k a) F H Q = avc P Γ N n0 a (F.keep k) H Q := rfl
@[simp ↓] theorem avc_cutK (k a) : avc P Γ N n0 (.cut k a) F H Q = keepK F k fun G => avc P Γ N n0 a G H Q := by rw [avc_cut, keepK_eq]
@[simp ↓] theorem avc_seq (a b) : avc P Γ N n0 (.seq a b) F H Q = avc P Γ N n0 a F H (thenQ Q fun F' H' => avc P Γ N n0 b F' H' Q) := rfl
/-- a test -/
def ifB (A B : Prop) : AV → Prop
  | .c (.bool t) => (t = true → A) ∧ (t = false → B)
  | _ => False
@[congr] theorem ifB_congr {A B : Prop} {v v' : AV} (h : v = v') : ifB A B v = ifB A B v' := by rw [h]
@[simp ↓] theorem ifB_true (A B : Prop) : ifB A B (.c (.bool true)) = A := by simp [ifB]
@[simp ↓] theorem ifB_false (A B : Prop) : ifB A B (.c (.bool false)) = B := by simp [ifB]
@[simp ↓] theorem ifB_bool (A B : Prop) (t : Bool) : ifB A B (.c (.bool t)) = if t = true then A else B := by cases t <;> simp
@[simp ↓] theorem avc_cond (c a b) : avc P Γ N n0 (.cond c a b) F H Q = onv (opnd F c) (ifB (avc P Γ N n0 a F H Q) (avc P Γ N n0 b F H Q)) := rfl
@[simp ↓] theorem avc_block (i a) : avc P Γ N n0 (.block i a) F H Q = avc P Γ N n0 a F H (blockQ i Q) := rfl
@[simp ↓] theorem avc_loop (a) : avc P Γ N n0 (.loop a) F H Q = ALoop P N n0 a F H Q := rfl
@[simp ↓] theorem avc_exit (i) : avc P Γ N n0 (.exit i) F H Q = Q (.exit i) F H := rfl
@[simp ↓] theorem avc_ret : avc P Γ N n0 .ret F H Q = Q .ret F H := rfl

@[simp ↓] theorem thenQ_normal (K : AFrame → AHeap → Prop) : thenQ Q K .normal F H = K F H := rfl
@[simp ↓] theorem thenQ_ret (K : AFrame → AHeap → Prop) : thenQ Q K .ret F H = Q .ret F H := rfl
@[simp ↓] theorem thenQ_exit (K : AFrame → AHeap → Prop) (i : Nat) : thenQ Q K (.exit i) F H = Q (.exit i) F H := rfl
@[simp ↓] theorem blockQ_normal (i : Nat) : blockQ i Q .normal F H = Q .normal F H := rfl
@[simp ↓] theorem blockQ_ret (i : Nat) : blockQ i Q .ret F H = Q .ret F H := rfl
@[simp ↓] theorem blockQ_exit (i j : Nat) : blockQ i Q (.exit j) F H = if j = i then Q .normal F H else Q (.exit j) F H := rfl
@[simp ↓] theorem retQ_normal (K : AFrame → AHeap → Prop) : retQ K .normal F H = K F H := rfl
@[simp ↓] theorem retQ_ret (K : AFrame → AHeap → Prop) : retQ K .ret F H = K F H := rfl

/-! operations in a row -/
variable {K : AFrame → AHeap → Prop}
/-- a guard -/
def ifG (want : Bool) (A B : Prop) : AV → Prop
  | .c (.bool b) => (b = want → A) ∧ (b ≠ want → B)
  | .tup _ => B
  | _ => False
@[simp ↓] theorem ifG_tup (want : Bool) (A B : Prop) (xs : List AV) : ifG want A B (.tup xs) = B := rfl
@[congr] theorem ifG_congr {want : Bool} {A B : Prop} {v v' : AV} (h : v = v') : ifG want A B v = ifG want A B v' := by rw [h]
@[simp ↓] theorem ifG_t (A B : Prop) (b : Bool) : ifG true A B (.c (.bool b)) = if b = true then A else B := by cases b <;> simp [ifG]
@[simp ↓] theorem ifG_f (A B : Prop) (b : Bool) : ifG false A B (.c (.bool b)) = if b = true then B else A := by cases b <;> simp [ifG]
@[simp ↓] theorem ifG_tt (A B : Prop) : ifG true A B (.c (.bool true)) = A := by simp
@[simp ↓] theorem ifG_ff (A B : Prop) : ifG false A B (.c (.bool false)) = A := by simp
@[simp ↓] theorem ifG_tf (A B : Prop) : ifG true A B (.c (.bool false)) = B := by simp
@[simp ↓] theorem ifG_ft (A B : Prop) : ifG false A B (.c (.bool true)) = B := by simp
theorem aguard_some (t : Tmp) (want : Bool) (A B : Prop) : aguard F (some (some t, want)) A B = onv (F.get t) (ifG want A B) := rfl
@[simp ↓] theorem aops_nil : aops P Γ N [] F H K = K F H := rfl
@[simp ↓] theorem aops_plain (t : Tmp) (op : Op) (r : List POp) : aops P Γ N (⟨some t, op, none⟩ :: r) F H K = if t < N then astep P Γ H F op fun v H' => aops P Γ N r ((t, v) :: F) H' K else False := (ite_and (a := t < N)).symm
@[simp ↓] theorem aops_nodst (op : Op) (r : List POp) : aops P Γ N (⟨none, op, none⟩ :: r) F H K = astep P Γ H F op fun _ H' => aops P Γ N r F H' K := by
  simp only [aops, dstOk, aguard, AFrame.put, true_and]
@[simp ↓] theorem aops_guard (t g : Tmp) (want : Bool) (op : Op) (r : List POp) : aops P Γ N (⟨some t, op, some (some g, want)⟩ :: r) F H K =
    if t < N then onv (F.get g) (ifG want (astep P Γ H F op fun v H' => aops P Γ N r ((t, v) :: F) H' K) (aops P Γ N r ((t, .tup []) :: F) H K)) else False := (ite_and (a := t < N)).symm
@[simp ↓] theorem aops_guard_nodst (g : Tmp) (want : Bool) (op : Op) (r : List POp) : aops P Γ N (⟨none, op, some (some g, want)⟩ :: r) F H K =
    onv (F.get g) (ifG want (astep P Γ H F op fun _ H' => aops P Γ N r F H' K) (aops P Γ N r F H K)) := by
  simp only [aops, dstOk, aguard_some, AFrame.put, true_and]

variable {KQ : AFrame → Prop}
@[simp ↓] theorem aopsQ_nil : aopsQ P Γ N H [] F KQ = KQ F := rfl
@[simp ↓] theorem aopsQ_plain (t : Tmp) (op : Op) (r : List POp) : aopsQ P Γ N H (⟨some t, op, none⟩ :: r) F KQ = if t < N then astepQ P Γ H F op fun v => aopsQ P Γ N H r ((t, v) :: F) KQ else False := (ite_and (a := t < N)).symm
@[simp ↓] theorem aopsQ_guard (t g : Tmp) (want : Bool) (op : Op) (r : List POp) : aopsQ P Γ N H (⟨some t, op, some (some g, want)⟩ :: r) F KQ =
    if t < N then onv (F.get g) (ifG want (astepQ P Γ H F op fun v => aopsQ P Γ N H r ((t, v) :: F) KQ) (aopsQ P Γ N H r ((t, .tup []) :: F) KQ)) else False := (ite_and (a := t < N)).symm

/-! operands -/
section
variable {α : Type} {KA : AV → Prop}
@[simp ↓] theorem onv_some_pre (v : α) (K : α → Prop) : onv (some v) K = K v := rfl
@[simp] theorem onv_some_post (v : α) (K : α → Prop) : onv (some v) K = K v := rfl
@[simp] theorem onv_none_post (K : α → Prop) : onv none K = False := rfl
@[simp ↓] theorem opnd_tmp (t : Tmp) : onv (opnd F (.tmp t)) KA = onv (F.get t) KA := rfl
@[simp ↓] theorem opnd_int (k : IntKind) (n : Int) : onv (opnd F (.const (.int k n))) KA = KA (.c (.int k n)) := rfl
@[simp ↓] theorem opnd_bool (b : Bool) : onv (opnd F (.const (.bool b))) KA = KA (.c (.bool b)) := rfl
@[simp ↓] theorem opnd_nil : onv (opnd F (.const (.slice none 0 0))) KA = KA (.c .nils) := rfl
@[simp ↓] theorem opnd_str (l : List UInt8) : onv (opnd F (.const (.string ⟨l.toArray⟩))) KA = KA (.c (.str l)) := rfl
@[simp ↓] theorem opnd_func (f : FuncId) : onv (opnd F (.func f)) KA = KA (.c (.fn f [])) := rfl
@[simp ↓] theorem get_cons (s t : Tmp) (v : AV) (r : AFrame) : onv (AFrame.get ((s, v) :: r) t) KA = if s = t then KA v else onv (AFrame.get r t) KA := by
  simp only [AFrame.get]; split <;> rfl
@[simp ↓] theorem get_nil (t : Tmp) : onv (AFrame.get [] t) KA = False := rfl

/-- an integer -/
def intK (K : Int → Prop) : AV → Prop
  | .c (.int _ n) => K n
  | _ => False
@[congr] theorem intK_congr {K : Int → Prop} {v v' : AV} (h : v = v') : intK K v = intK K v' := by rw [h]
@[simp ↓] theorem intK_int (K : Int → Prop) (k : IntKind) (n : Int) : intK K (.c (.int k n)) = K n := rfl
theorem asI_onv {o : Option AV} {K : Int → Prop} : onv (asI o) K = onv o (intK K) := by
  cases o with
  | none => rfl
  | some v => unfold intK asI; cases v with
    | c x => cases x <;> rfl
    | agg xs => rfl
    | tup xs => rfl
@[simp ↓] theorem asI_opnd (x : Operand) (K : Int → Prop) : onv (asI (opnd F x)) K = onv (opnd F x) (intK K) := asI_onv
@[simp ↓] theorem bnd_none (d : Int) (K : Int → Prop) : onv (bnd F d none) K = K d := rfl
@[simp ↓] theorem bnd_some (d : Int) (x : Operand) (K : Int → Prop) : onv (bnd F d (some x)) K = onv (opnd F x) (intK K) := asI_onv
@[simp ↓] theorem bnd_bind (x : Operand) (K : Int → Prop) : onv ((some x).bind fun y => asI (opnd F y)) K = onv (opnd F x) (intK K) := asI_onv

/-- a value that may be handed on -/
def handed (K : AV → Prop) : AV → Prop
  | .c x => K (.c x)
  | .agg xs => K (.agg xs)
  | .tup _ => False
@[congr] theorem handed_congr {K : AV → Prop} {v v' : AV} (h : v = v') : handed K v = handed K v' := by rw [h]
@[simp ↓] theorem handed_c (K : AV → Prop) (x : AC) : handed K (.c x) = K (.c x) := rfl
@[simp ↓] theorem handed_agg (K : AV → Prop) (xs : List AC) : handed K (.agg xs) = K (.agg xs) := rfl
/-- operands one after the other, and what stands behind them -/
def opndsT (F : AFrame) (tail : List AV) : List Operand → (List AV → Prop) → Prop
  | [], K => K tail
  | x :: r, K => onv (opnd F x) (handed fun v => opndsT F tail r fun vs => K (v :: vs))
@[simp ↓] theorem opndsT_nil (tail : List AV) (K : List AV → Prop) : opndsT F tail [] K = K tail := rfl
@[simp ↓] theorem opndsT_cons (tail : List AV) (x : Operand) (r : List Operand) (K : List AV → Prop) : opndsT F tail (x :: r) K = onv (opnd F x) (handed fun v => opndsT F tail r fun vs => K (v :: vs)) := rfl
theorem opndsT_eq (tail : List AV) : ∀ (l : List Operand) (K : List AV → Prop), (onv (opnds F l) fun vs => K (vs ++ tail)) = opndsT F tail l K
  | [], K => rfl
  | x :: r, K => by
    simp only [opndsT, opnds]
    cases opnd F x with
    | none => rfl
    | some v =>
      cases v with
      | c y => simp only [onv_some_pre, handed, ← opndsT_eq tail r]; cases opnds F r <;> rfl
      | agg ys => simp only [onv_some_pre, handed, ← opndsT_eq tail r]; cases opnds F r <;> rfl
      | tup _ => rfl
end

/-! contracts at hand -/
@[simp ↓] theorem env_cons (f : FuncId) (c : Con) (r : Env) (g : FuncId) (args : List AV) (K : AV → AHeap → Prop) : Env.get ((f, c) :: r) g args H K = if f = g then c args H K else Env.get r g args H K := by
  simp only [Env.get]; split <;> rfl
@[simp ↓] theorem env_nil (g : FuncId) (args : List AV) (K : AV → AHeap → Prop) : Env.get [] g args H K = False := rfl

/-! the operations -/
variable {KE : AV → AHeap → Prop} {KA : AV → Prop}
theorem or_f (p : Prop) : (p ∨ False) = p := by simp
theorem f_or (p : Prop) : (False ∨ p) = p := by simp

@[simp ↓] theorem p_move (x : Operand) : apure P H F (.move x) KA = onv (opnd F x) KA := rfl
@[simp ↓] theorem s_move (x : Operand) : astep P Γ H F (.move x) KE = onv (opnd F x) fun v => KE v H := or_f _
@[simp ↓] theorem q_move (x : Operand) : astepQ P Γ H F (.move x) KA = onv (opnd F x) KA := rfl
@[simp ↓] theorem s_assign (x : Operand) : astep P Γ H F (.assign x) KE = onv (opnd F x) fun v => KE v H := or_f _
@[simp ↓] theorem q_assign (x : Operand) : astepQ P Γ H F (.assign x) KA = onv (opnd F x) KA := rfl

/-- a choice -/
def pickK (A B : Prop) : AV → Prop
  | .c (.bool t) => (t = true → A) ∧ (t = false → B)
  | _ => False
@[congr] theorem pickK_congr {A B : Prop} {v v' : AV} (h : v = v') : pickK A B v = pickK A B v' := by rw [h]
@[simp ↓] theorem pickK_b (A B : Prop) (t : Bool) : pickK A B (.c (.bool t)) = if t = true then A else B := by cases t <;> simp [pickK]
@[simp ↓] theorem pickK_t (A B : Prop) : pickK A B (.c (.bool true)) = A := by simp
@[simp ↓] theorem pickK_f (A B : Prop) : pickK A B (.c (.bool false)) = B := by simp
@[simp ↓] theorem q_pick (c x y : Operand) : astepQ P Γ H F (.pick c x y) KA = onv (opnd F c) (pickK (onv (opnd F x) KA) (onv (opnd F y) KA)) := rfl
@[simp ↓] theorem s_pick (c x y : Operand) : astep P Γ H F (.pick c x y) KE = onv (opnd F c) (pickK (onv (opnd F x) fun v => KE v H) (onv (opnd F y) fun v => KE v H)) := or_f _

/-- a load -/
def loadK (H : AHeap) (tk : TyK) (K : AV → Prop) : AV → Prop
  | .c (.ptr b i j) => onv (H.b b) fun k => match tk with
    | .cell => onv (k.els[i]?) fun e => onv (e[j]?) fun x => K (.c x)
    | .obj n => j = 0 ∧ n = k.esz ∧ onv (k.els[i]?) fun e => K (.agg e)
    | .arr n => j = 0 ∧ k.esz = 1 ∧ i + n ≤ k.els.length ∧ K (.agg ((k.els.drop i).take n).flatten)
  | _ => False
@[congr] theorem loadK_congr {H : AHeap} {tk : TyK} {K : AV → Prop} {v v' : AV} (h : v = v') : loadK H tk K v = loadK H tk K v' := by rw [h]
@[simp ↓] theorem loadK_cell (K : AV → Prop) (b i j : Nat) : loadK H .cell K (.c (.ptr b i j)) = onv (H.b b) fun k => onv (k.els[i]?) fun e => onv (e[j]?) fun x => K (.c x) := rfl
@[simp ↓] theorem loadK_obj (K : AV → Prop) (n b i j : Nat) : loadK H (.obj n) K (.c (.ptr b i j)) = onv (H.b b) fun k => j = 0 ∧ n = k.esz ∧ onv (k.els[i]?) fun e => K (.agg e) := rfl
@[simp ↓] theorem loadK_arr (K : AV → Prop) (n b i j : Nat) : loadK H (.arr n) K (.c (.ptr b i j)) = onv (H.b b) fun k => j = 0 ∧ k.esz = 1 ∧ i + n ≤ k.els.length ∧ K (.agg ((k.els.drop i).take n).flatten) := rfl
@[simp ↓] theorem p_load (t : TypeId) (x : Operand) : apure P H F (.load t x) KA = onv (tyK P t) fun tk => onv (opnd F x) (loadK H tk KA) := by
  simp only [apure]
  cases htk : tyK P t with
  | none => cases opnd F x with
    | none => rfl
    | some v => cases v with
      | c y => cases y <;> try rfl
               rename_i b i j; simp only [onv_some_pre, onv_none_post]; cases H.b b <;> rfl
      | _ => rfl
  | some tk => cases opnd F x with
    | none => rfl
    | some v => cases v with
      | c y => cases y <;> rfl
      | _ => rfl
@[simp ↓] theorem s_load (t : TypeId) (x : Operand) : astep P Γ H F (.load t x) KE = onv (tyK P t) fun tk => onv (opnd F x) (loadK H tk fun v => KE v H) := (or_f _).trans (p_load t x)
@[simp ↓] theorem q_load (t : TypeId) (x : Operand) : astepQ P Γ H F (.load t x) KA = onv (tyK P t) fun tk => onv (opnd F x) (loadK H tk KA) := p_load t x

/-- the address of a field -/
def fldAK (o : Nat) (K : AV → Prop) : AV → Prop
  | .c (.ptr b i j) => K (.c (.ptr b i (j + o)))
  | _ => False
@[congr] theorem fldAK_congr {o : Nat} {K : AV → Prop} {v v' : AV} (h : v = v') : fldAK o K v = fldAK o K v' := by rw [h]
@[simp ↓] theorem fldAK_ptr (o : Nat) (K : AV → Prop) (b i j : Nat) : fldAK o K (.c (.ptr b i j)) = K (.c (.ptr b i (j + o))) := rfl
theorem p_fieldAddr (s : TypeId) (x : Operand) (f : Nat) : apure P H F (.fieldAddr s x f) KA = onv (fldK P s f) fun o => onv (opnd F x) (fldAK o KA) := by
  simp only [apure]
  cases fldK P s f with
  | none => cases opnd F x with
    | none => rfl
    | some v => cases v with
      | c y => cases y <;> rfl
      | _ => rfl
  | some o => cases opnd F x with
    | none => rfl
    | some v => cases v with
      | c y => cases y <;> rfl
      | _ => rfl
@[simp ↓] theorem s_fieldAddr (s : TypeId) (x : Operand) (f : Nat) : astep P Γ H F (.fieldAddr s x f) KE = onv (fldK P s f) fun o => onv (opnd F x) (fldAK o fun v => KE v H) := (or_f _).trans (p_fieldAddr s x f)
@[simp ↓] theorem q_fieldAddr (s : TypeId) (x : Operand) (f : Nat) : astepQ P Γ H F (.fieldAddr s x f) KA = onv (fldK P s f) fun o => onv (opnd F x) (fldAK o KA) := p_fieldAddr (H := H) s x f

/-- the address of an element -/
def idxAK (P : Program) (H : AHeap) (t : TypeId) (m : Int) (K : AV → Prop) : AV → Prop
  | .c (.sl b i n) => onv (H.b b) fun k => onv (slK P t) fun s => s.2.1 = k.esz ∧ 0 ≤ m ∧ m < n ∧ K (.c (.ptr b (i + m.toNat) 0))
  | .c (.ptr b i j) => onv (H.b b) fun k => onv (arrK P t) fun n => j = 0 ∧ k.esz = 1 ∧ 0 ≤ m ∧ m < n ∧ K (.c (.ptr b (i + m.toNat) 0))
  | _ => False
@[congr] theorem idxAK_congr {P : Program} {H : AHeap} {t : TypeId} {m : Int} {K : AV → Prop} {v v' : AV} (h : v = v') : idxAK P H t m K v = idxAK P H t m K v' := by rw [h]
@[simp ↓] theorem idxAK_sl (t : TypeId) (m : Int) (K : AV → Prop) (b i n : Nat) : idxAK P H t m K (.c (.sl b i n)) = onv (H.b b) fun k => onv (slK P t) fun s => s.2.1 = k.esz ∧ 0 ≤ m ∧ m < n ∧ K (.c (.ptr b (i + m.toNat) 0)) := rfl
@[simp ↓] theorem idxAK_ptr (t : TypeId) (m : Int) (K : AV → Prop) (b i j : Nat) : idxAK P H t m K (.c (.ptr b i j)) = onv (H.b b) fun k => onv (arrK P t) fun n => j = 0 ∧ k.esz = 1 ∧ 0 ≤ m ∧ m < n ∧ K (.c (.ptr b (i + m.toNat) 0)) := rfl
theorem p_indexAddr (t : TypeId) (x ix : Operand) : apure P H F (.indexAddr t x ix) KA = onv (opnd F x) fun v => onv (opnd F ix) (intK fun m => idxAK P H t m KA v) := by
  simp only [apure, asI_onv]; rfl
@[simp ↓] theorem s_indexAddr (t : TypeId) (x ix : Operand) : astep P Γ H F (.indexAddr t x ix) KE = onv (opnd F x) fun v => onv (opnd F ix) (intK fun m => idxAK P H t m (fun v => KE v H) v) := (or_f _).trans (p_indexAddr t x ix)
@[simp ↓] theorem q_indexAddr (t : TypeId) (x ix : Operand) : astepQ P Γ H F (.indexAddr t x ix) KA = onv (opnd F x) fun v => onv (opnd F ix) (intK fun m => idxAK P H t m KA v) := p_indexAddr t x ix

/-- a component -/
def extK (i : Nat) (K : AV → Prop) : AV → Prop
  | .tup xs => onv (xs[i]?) K
  | _ => False
@[congr] theorem extK_congr {i : Nat} {K : AV → Prop} {v v' : AV} (h : v = v') : extK i K v = extK i K v' := by rw [h]
@[simp ↓] theorem extK_0 (K : AV → Prop) (x : AV) (r : List AV) : extK 0 K (.tup (x :: r)) = K x := rfl
@[simp ↓] theorem extK_1 (K : AV → Prop) (x y : AV) (r : List AV) : extK 1 K (.tup (x :: y :: r)) = K y := rfl
@[simp ↓] theorem extK_2 (K : AV → Prop) (x y z : AV) (r : List AV) : extK 2 K (.tup (x :: y :: z :: r)) = K z := rfl
@[simp ↓] theorem extK_3 (K : AV → Prop) (x y z u : AV) (r : List AV) : extK 3 K (.tup (x :: y :: z :: u :: r)) = K u := rfl
@[simp ↓] theorem s_extract (x : Operand) (i : Nat) : astep P Γ H F (.extract x i) KE = onv (opnd F x) (extK i fun v => KE v H) := or_f _
@[simp ↓] theorem q_extract (x : Operand) (i : Nat) : astepQ P Γ H F (.extract x i) KA = onv (opnd F x) (extK i KA) := rfl

/-- a field of a struct -/
def fldK' (o : Nat) (K : AV → Prop) : AV → Prop
  | .agg xs => onv (xs[o]?) fun c => K (.c c)
  | _ => False
@[congr] theorem fldK'_congr {o : Nat} {K : AV → Prop} {v v' : AV} (h : v = v') : fldK' o K v = fldK' o K v' := by rw [h]
@[simp ↓] theorem fldK'_agg (o : Nat) (K : AV → Prop) (xs : List AC) : fldK' o K (.agg xs) = onv (xs[o]?) fun c => K (.c c) := rfl
theorem p_field (t : TypeId) (x : Operand) (f : Nat) : apure P H F (.field t x f) KA = onv (fldK P t f) fun o => onv (opnd F x) (fldK' o KA) := by
  simp only [apure]
  cases fldK P t f with
  | none => cases opnd F x with
    | none => rfl
    | some v => cases v <;> rfl
  | some o => cases opnd F x with
    | none => rfl
    | some v => cases v <;> rfl
@[simp ↓] theorem s_field (t : TypeId) (x : Operand) (f : Nat) : astep P Γ H F (.field t x f) KE = onv (fldK P t f) fun o => onv (opnd F x) (fldK' o fun v => KE v H) := (or_f _).trans (p_field t x f)
@[simp ↓] theorem q_field (t : TypeId) (x : Operand) (f : Nat) : astepQ P Γ H F (.field t x f) KA = onv (fldK P t f) fun o => onv (opnd F x) (fldK' o KA) := p_field (H := H) t x f

/-- an element of a string or an array -/
def idxK (P : Program) (t : TypeId) (m : Int) (K : AV → Prop) : AV → Prop
  | .c (.str s) => (dK P t = some .str) ∧ 0 ≤ m ∧ onv (s[m.toNat]?) fun c => K (.c (.int .u8 c.toNat))
  | .agg xs => onv (arrK P t) fun n => xs.length = n ∧ 0 ≤ m ∧ m < n ∧ onv (xs[m.toNat]?) fun c => K (.c c)
  | _ => False
@[congr] theorem idxK_congr {P : Program} {t : TypeId} {m : Int} {K : AV → Prop} {v v' : AV} (h : v = v') : idxK P t m K v = idxK P t m K v' := by rw [h]
@[simp ↓] theorem idxK_str (t : TypeId) (m : Int) (K : AV → Prop) (s : List UInt8) : idxK P t m K (.c (.str s)) = ((dK P t = some .str) ∧ 0 ≤ m ∧ onv (s[m.toNat]?) fun c => K (.c (.int .u8 c.toNat))) := rfl
@[simp ↓] theorem idxK_agg (t : TypeId) (m : Int) (K : AV → Prop) (xs : List AC) : idxK P t m K (.agg xs) = onv (arrK P t) fun n => xs.length = n ∧ 0 ≤ m ∧ m < n ∧ onv (xs[m.toNat]?) fun c => K (.c c) := rfl
theorem p_index (t : TypeId) (x ix : Operand) : apure P H F (.index t x ix) KA = onv (opnd F x) fun v => onv (opnd F ix) (intK fun m => idxK P t m KA v) := by
  simp only [apure, asI_onv]; rfl
@[simp ↓] theorem s_index (t : TypeId) (x ix : Operand) : astep P Γ H F (.index t x ix) KE = onv (opnd F x) fun v => onv (opnd F ix) (intK fun m => idxK P t m (fun v => KE v H) v) := (or_f _).trans (p_index t x ix)
@[simp ↓] theorem q_index (t : TypeId) (x ix : Operand) : astepQ P Γ H F (.index t x ix) KA = onv (opnd F x) fun v => onv (opnd F ix) (intK fun m => idxK P t m KA v) := p_index (H := H) t x ix

variable {KC : AC → Prop}
@[simp ↓] theorem aun_not (b : Bool) : aun .not (.c (.bool b)) KC = KC (.bool (!b)) := rfl
@[simp ↓] theorem aun_neg (k : IntKind) (n : Int) : aun .neg (.c (.int k n)) KC = KC (.int k (k.wrap (0 - n))) := rfl
@[simp ↓] theorem s_unOp (op : UnOp) (t : TypeId) (x : Operand) : astep P Γ H F (.unOp op t x) KE = onv (opnd F x) fun v => aun op v fun c => KE (.c c) H := or_f _
@[simp ↓] theorem q_unOp (op : UnOp) (t : TypeId) (x : Operand) : astepQ P Γ H F (.unOp op t x) KA = onv (opnd F x) fun v => aun op v fun c => KA (.c c) := rfl

section
variable (k : IntKind) (a b : Int)
@[simp ↓] theorem b_add : abin .add (.c (.int k a)) (.c (.int k b)) KC = KC (.int k (k.wrap (a + b))) := by simp [abin, isShift, aint]
@[simp ↓] theorem b_sub : abin .sub (.c (.int k a)) (.c (.int k b)) KC = KC (.int k (k.wrap (a - b))) := by simp [abin, isShift, aint]
@[simp ↓] theorem b_mul : abin .mul (.c (.int k a)) (.c (.int k b)) KC = KC (.int k (k.wrap (a * b))) := by simp [abin, isShift, aint]
@[simp ↓] theorem b_quo : abin .quo (.c (.int k a)) (.c (.int k b)) KC = (b ≠ 0 ∧ KC (.int k (k.wrap (a.tdiv b)))) := by simp [abin, isShift, aint]
@[simp ↓] theorem b_rem : abin .rem (.c (.int k a)) (.c (.int k b)) KC = (b ≠ 0 ∧ KC (.int k (a.tmod b))) := by simp [abin, isShift, aint]
@[simp ↓] theorem b_and : abin .and (.c (.int k a)) (.c (.int k b)) KC = KC (.int k (k.wrap (BitVec.ofInt k.bits a &&& BitVec.ofInt k.bits b).toNat)) := by simp [abin, isShift, aint]
@[simp ↓] theorem b_eql : abin .eql (.c (.int k a)) (.c (.int k b)) KC = KC (.bool (decide (a = b))) := by simp [abin, isShift, aint]
@[simp ↓] theorem b_neq : abin .neq (.c (.int k a)) (.c (.int k b)) KC = KC (.bool (decide (a ≠ b))) := by simp [abin, isShift, aint]
@[simp ↓] theorem b_lss : abin .lss (.c (.int k a)) (.c (.int k b)) KC = KC (.bool (decide (a < b))) := by simp [abin, isShift, aint]
@[simp ↓] theorem b_leq : abin .leq (.c (.int k a)) (.c (.int k b)) KC = KC (.bool (decide (a ≤ b))) := by simp [abin, isShift, aint]
@[simp ↓] theorem b_gtr : abin .gtr (.c (.int k a)) (.c (.int k b)) KC = KC (.bool (decide (b < a))) := by simp [abin, isShift, aint]
@[simp ↓] theorem b_geq : abin .geq (.c (.int k a)) (.c (.int k b)) KC = KC (.bool (decide (b ≤ a))) := by simp [abin, isShift, aint]
variable (k' : IntKind)
@[simp ↓] theorem b_shl : abin .shl (.c (.int k a)) (.c (.int k' b)) KC = (0 ≤ b ∧ KC (.int k (k.wrap (a * 2 ^ (min b.toNat k.bits))))) := by simp [abin, isShift, ashift]
@[simp ↓] theorem b_shr : abin .shr (.c (.int k a)) (.c (.int k' b)) KC = (0 ≤ b ∧ KC (.int k (a.fdiv (2 ^ (min b.toNat k.bits))))) := by simp [abin, isShift, ashift]
variable (s r : List UInt8)
@[simp ↓] theorem b_sadd : abin .add (.c (.str s)) (.c (.str r)) KC = (s.length + r.length ≤ 9223372036854775807 ∧ KC (.str (s ++ r))) := rfl
@[simp ↓] theorem b_seql : abin .eql (.c (.str s)) (.c (.str r)) KC = KC (.bool (decide (s = r))) := rfl
@[simp ↓] theorem b_sneq : abin .neq (.c (.str s)) (.c (.str r)) KC = KC (.bool (decide (s ≠ r))) := rfl
@[simp ↓] theorem b_slss : abin .lss (.c (.str s)) (.c (.str r)) KC = KC (.bool (Op.bytesLess s r)) := rfl
end
@[simp ↓] theorem bT_int (t : TypeId) (y : Operand) (op : BinOp) (k k' : IntKind) (a b : Int) : abinT P t y op (.c (.int k a)) (.c (.int k' b)) KC = abin op (.c (.int k a)) (.c (.int k' b)) KC := rfl
@[simp ↓] theorem bT_str (t : TypeId) (y : Operand) (op : BinOp) (a b : List UInt8) : abinT P t y op (.c (.str a)) (.c (.str b)) KC = abin op (.c (.str a)) (.c (.str b)) KC := rfl
@[simp ↓] theorem bT_eql (t : TypeId) (y : Operand) (a b : Bool) : abinT P t y .eql (.c (.bool a)) (.c (.bool b)) KC = (dK P t = some .bool ∧ KC (.bool (a == b))) := rfl
@[simp ↓] theorem bT_neq (t : TypeId) (y : Operand) (a b : Bool) : abinT P t y .neq (.c (.bool a)) (.c (.bool b)) KC = (dK P t = some .bool ∧ KC (.bool (!(a == b)))) := rfl
@[simp ↓] theorem bT_agg (t : TypeId) (y : Operand) (op : BinOp) (xs ys : List AC) : abinT P t y op (.agg xs) (.agg ys) KC = onv (eqKs P t) fun ks => okEq ks xs = true ∧ okEq ks ys = true ∧ onv (eqACs xs ys) fun b => eqB op b KC := rfl
@[simp ↓] theorem eqB_eql (b : Bool) : eqB .eql b KC = KC (.bool b) := rfl
@[simp ↓] theorem eqB_neq (b : Bool) : eqB .neq b KC = KC (.bool (!b)) := rfl
@[simp] theorem okEq_nil : okEq [] [] = true := rfl
@[simp] theorem okEq_int (k : IntKind) (n : Int) (r : List Nat) (xs : List AC) : okEq (0 :: r) (.int k n :: xs) = okEq r xs := rfl
@[simp] theorem okEq_str (s : List UInt8) (r : List Nat) (xs : List AC) : okEq (1 :: r) (.str s :: xs) = okEq r xs := rfl
@[simp] theorem okEq_bool (b : Bool) (r : List Nat) (xs : List AC) : okEq (2 :: r) (.bool b :: xs) = okEq r xs := rfl
@[simp] theorem eqACs_nil : eqACs [] [] = some true := rfl
@[simp] theorem eqACs_int (k : IntKind) (a b : Int) (xs ys : List AC) : eqACs (.int k a :: xs) (.int k b :: ys) = (eqACs xs ys).map fun r => decide (a = b) && r := by simp [eqACs]
@[simp] theorem eqACs_str (a b : List UInt8) (xs ys : List AC) : eqACs (.str a :: xs) (.str b :: ys) = (eqACs xs ys).map fun r => decide (a = b) && r := rfl
@[simp] theorem eqACs_bool (a b : Bool) (xs ys : List AC) : eqACs (.bool a :: xs) (.bool b :: ys) = (eqACs xs ys).map fun r => (a == b) && r := rfl
@[simp ↓] theorem bT_slnil (t : TypeId) (y : Operand) (b i n : Nat) : abinT P t y .eql (.c (.sl b i n)) (.c .nils) KC = (nilOp y = true ∧ slcT (dK P t) = true ∧ KC (.bool false) ∧ (n = 0 → KC (.bool true))) := rfl
@[simp ↓] theorem bT_nilnil (t : TypeId) (y : Operand) : abinT P t y .eql (.c .nils) (.c .nils) KC = (nilOp y = true ∧ slcT (dK P t) = true ∧ KC (.bool false) ∧ (0 = 0 → KC (.bool true))) := rfl
@[simp] theorem nilOp_nil : nilOp (.const (.slice none 0 0)) = true := rfl
@[simp] theorem slcT_slc : slcT (some .slc) = true := rfl
@[simp] theorem slcT_bytes (e : TypeId) : slcT (some (.bytes e)) = true := rfl
@[simp ↓] theorem s_binOp (op : BinOp) (t t' : TypeId) (x y : Operand) : astep P Γ H F (.binOp op t x y t') KE = onv (opnd F x) fun v => onv (opnd F y) fun u => abinT P t y op v u fun c => KE (.c c) H := or_f _
@[simp ↓] theorem q_binOp (op : BinOp) (t t' : TypeId) (x y : Operand) : astepQ P Γ H F (.binOp op t x y t') KA = onv (opnd F x) fun v => onv (opnd F y) fun u => abinT P t y op v u fun c => KA (.c c) := rfl

/-- a nil check -/
def nilK (K : AV → Prop) : AV → Prop
  | .c (.ptr b i j) => K (.c (.ptr b i j))
  | .c (.fn f bs) => K (.c (.fn f bs))
  | _ => False
@[congr] theorem nilK_congr {K : AV → Prop} {v v' : AV} (h : v = v') : nilK K v = nilK K v' := by rw [h]
@[simp ↓] theorem nilK_ptr (K : AV → Prop) (b i j : Nat) : nilK K (.c (.ptr b i j)) = K (.c (.ptr b i j)) := rfl
@[simp ↓] theorem nilK_fn (K : AV → Prop) (f : FuncId) (bs : List Nat) : nilK K (.c (.fn f bs)) = K (.c (.fn f bs)) := rfl
@[simp ↓] theorem s_nilCheck (x : Operand) : astep P Γ H F (.nilCheck x) KE = onv (opnd F x) (nilK fun v => KE v H) := or_f _
@[simp ↓] theorem q_nilCheck (x : Operand) : astepQ P Γ H F (.nilCheck x) KA = onv (opnd F x) (nilK KA) := rfl

/-- len -/
def lenK (d : DK) (K : AV → Prop) : AV → Prop
  | .c (.str s) => match d with | .str => K (.c (.int .i64 s.length)) | _ => False
  | .c (.sl _ _ n) => match d with | .slc => K (.c (.int .i64 n)) | .bytes _ => K (.c (.int .i64 n)) | _ => False
  | .c .nils => match d with | .slc => K (.c (.int .i64 0)) | .bytes _ => K (.c (.int .i64 0)) | _ => False
  | _ => False
@[congr] theorem lenK_congr {d : DK} {K : AV → Prop} {v v' : AV} (h : v = v') : lenK d K v = lenK d K v' := by rw [h]
@[simp ↓] theorem lenK_str (K : AV → Prop) (s : List UInt8) : lenK .str K (.c (.str s)) = K (.c (.int .i64 s.length)) := rfl
@[simp ↓] theorem lenK_sl (K : AV → Prop) (b i n : Nat) : lenK .slc K (.c (.sl b i n)) = K (.c (.int .i64 n)) := rfl
@[simp ↓] theorem lenK_bsl (K : AV → Prop) (e : TypeId) (b i n : Nat) : lenK (.bytes e) K (.c (.sl b i n)) = K (.c (.int .i64 n)) := rfl
@[simp ↓] theorem lenK_nil (K : AV → Prop) : lenK .slc K (.c .nils) = K (.c (.int .i64 0)) := rfl
@[simp ↓] theorem lenK_bnil (K : AV → Prop) (e : TypeId) : lenK (.bytes e) K (.c .nils) = K (.c (.int .i64 0)) := rfl
theorem p_len (x : Operand) (t : TypeId) : apure P H F (.call ⟨.builtin .len, ⟨[x]⟩, ⟨[t]⟩⟩) KA = onv (dK P t) fun d => onv (opnd F x) (lenK d KA) := by
  simp only [apure]
  cases dK P t with
  | none => cases opnd F x <;> rfl
  | some d => cases opnd F x with
    | none => rfl
    | some v => cases v with
      | c y => cases y <;> cases d <;> rfl
      | _ => cases d <;> rfl
@[simp ↓] theorem s_len (x : Operand) (t : TypeId) : astep P Γ H F (.call ⟨.builtin .len, ⟨[x]⟩, ⟨[t]⟩⟩) KE = onv (dK P t) fun d => onv (opnd F x) (lenK d fun v => KE v H) := (or_f _).trans (p_len x t)
@[simp ↓] theorem q_len (x : Operand) (t : TypeId) : astepQ P Γ H F (.call ⟨.builtin .len, ⟨[x]⟩, ⟨[t]⟩⟩) KA = onv (dK P t) fun d => onv (opnd F x) (lenK d KA) := p_len (H := H) x t

/-- calls -/
def callK (K : FuncId → List Nat → Prop) : AV → Prop
  | .c (.fn g caps) => K g caps
  | _ => False
@[congr] theorem callK_congr {K : FuncId → List Nat → Prop} {v v' : AV} (h : v = v') : callK K v = callK K v' := by rw [h]
@[simp ↓] theorem callK_fn (K : FuncId → List Nat → Prop) (g : FuncId) (caps : List Nat) : callK K (.c (.fn g caps)) = K g caps := rfl
def capsT (K : List AV → Prop) : List Nat → Prop := fun caps => K (caps.map fun b => .c (.ptr b 0 0))
@[simp ↓] theorem capsT_0 (K : List AV → Prop) : capsT K [] = K [] := rfl
@[simp ↓] theorem capsT_1 (K : List AV → Prop) (b : Nat) : capsT K [b] = K [.c (.ptr b 0 0)] := rfl
@[simp ↓] theorem capsT_2 (K : List AV → Prop) (b c : Nat) : capsT K [b, c] = K [.c (.ptr b 0 0), .c (.ptr c 0 0)] := rfl
@[simp ↓] theorem capsT_3 (K : List AV → Prop) (b c d : Nat) : capsT K [b, c, d] = K [.c (.ptr b 0 0), .c (.ptr c 0 0), .c (.ptr d 0 0)] := rfl
@[simp ↓] theorem s_call (f : Operand) (args : List Operand) (ts : Array TypeId) : astep P Γ H F (.call ⟨.value f, ⟨args⟩, ts⟩) KE = onv (opnd F f) (callK fun g caps => capsT (fun tail => opndsT F tail args fun vs => Γ.get g vs H KE) caps) := by
  simp only [astep]; congr 1; funext v
  cases v with
  | c y => cases y <;> try rfl
           simp only [callK, capsT, ← opndsT_eq]
  | _ => rfl
/-- a quiet call: its value is plain, the heap is only read -/
structure QCall (Γ : Env) (g : FuncId) (vs : List AV) (H : AHeap) (K : AV → Prop) : Prop where
  ex : ∃ r, plainV r = true ∧ Γ.get g vs H.toRo (fun r' H' => r' = r ∧ H' = H.toRo) ∧ K r
@[congr] theorem QCall_congr {Γ : Env} {g : FuncId} {vs vs' : List AV} {H : AHeap} {K : AV → Prop} (h : vs = vs') : QCall Γ g vs H K = QCall Γ g vs' H K := by rw [h]
/-- .. the value found by looking at the contract -/
structure QEx (p : AV → Prop) (K : AV → Prop) : Prop where
  ex : ∃ r, plainV r = true ∧ p r ∧ K r
@[congr] theorem QEx_congr {p p' : AV → Prop} {K : AV → Prop} (h : ∀ r, p r = p' r) : QEx p K = QEx p' K := by rw [show p = p' from funext h]
@[simp ↓] theorem QCall_ex (Γ : Env) (g : FuncId) (vs : List AV) (H : AHeap) (K : AV → Prop) : QCall Γ g vs H K = QEx (fun r => Γ.get g vs H.toRo (fun r' H' => r' = r ∧ H' = H.toRo)) K := propext ⟨fun h => ⟨h.ex⟩, fun h => ⟨h.ex⟩⟩
@[simp] theorem QEx_eq (r0 : AV) (K : AV → Prop) : QEx (fun r => r0 = r) K = (plainV r0 = true ∧ K r0) := propext ⟨fun ⟨r, h1, h2, h3⟩ => by subst h2; exact ⟨h1, h3⟩, fun h => ⟨r0, h.1, rfl, h.2⟩⟩
@[simp] theorem plainV_int (k : IntKind) (n : Int) : plainV (.c (.int k n)) = true := rfl
@[simp] theorem plainV_bool (b : Bool) : plainV (.c (.bool b)) = true := rfl
@[simp] theorem plainV_str (s : List UInt8) : plainV (.c (.str s)) = true := rfl
@[simp ↓] theorem q_call (f : Operand) (args : List Operand) (ts : Array TypeId) : astepQ P Γ H F (.call ⟨.value f, ⟨args⟩, ts⟩) KA = onv (opnd F f) (callK fun g caps => capsT (fun tail => opndsT F tail args fun vs => QCall Γ g vs H KA) caps) := by
  simp only [astepQ]; congr 1; funext v
  cases v with
  | c y => cases y <;> try rfl
           simp only [callK, capsT, ← opndsT_eq]; congr 1; funext vs; exact propext ⟨fun h => ⟨h⟩, fun h => h.ex⟩
  | _ => rfl

/-! making and writing memory -/
@[simp ↓] theorem boxK_cell (t : TypeId) (cs : List AC) : boxK .cell t cs = ⟨t, cs.length, false, false, [cs]⟩ := rfl
@[simp ↓] theorem boxK_obj (n : Nat) (t : TypeId) (cs : List AC) : boxK (.obj n) t cs = ⟨t, cs.length, false, false, [cs]⟩ := rfl
@[simp ↓] theorem boxK_arr (n : Nat) (t : TypeId) (cs : List AC) : boxK (.arr n) t cs = ⟨t, 1, false, false, cs.map fun x => [x]⟩ := rfl
@[simp ↓] theorem s_alloc (t : TypeId) : astep P Γ H F (.alloc t) KE = onv (tyK P t) fun tk => onv (zeroK P t) fun z => z.length ≤ 1000000 ∧ KE (.c (.ptr H.n 0 0)) (H.push (boxK tk t z)) := f_or _
/-- the cells of a value -/
def cellsK (K : List AC → Prop) : AV → Prop
  | .c x => K [x]
  | .agg xs => K xs
  | .tup _ => False
@[congr] theorem cellsK_congr {K : List AC → Prop} {v v' : AV} (h : v = v') : cellsK K v = cellsK K v' := by rw [h]
@[simp ↓] theorem cellsK_c (K : List AC → Prop) (x : AC) : cellsK K (.c x) = K [x] := rfl
@[simp ↓] theorem cellsK_agg (K : List AC → Prop) (xs : List AC) : cellsK K (.agg xs) = K xs := rfl
@[simp ↓] theorem s_box (t : TypeId) (x : Operand) : astep P Γ H F (.box t x) KE = onv (tyK P t) fun tk => onv (opnd F x) (cellsK fun cs => cs.length ≤ 1000000 ∧ KE (.c (.ptr H.n 0 0)) (H.push (boxK tk t cs))) := by
  refine (f_or _).trans ?_
  simp only [aeff]; congr 1; funext tk; congr 1; funext v
  cases v <;> rfl

/-- a store -/
def storeK (H : AHeap) (tk : TyK) (K : AV → AHeap → Prop) (xv : AV) : AV → Prop
  | .c (.ptr b i j) => match xv, tk with
    | .c v, .cell => onv (H.b b) fun k => onv (k.els[i]?) fun e => k.ro = false ∧ j < e.length ∧ K (.tup []) (H.set b { k with els := k.els.set i (e.set j v) })
    | .agg xs, .obj n => onv (H.b b) fun k => k.ro = false ∧ j = 0 ∧ n = k.esz ∧ xs.length = n ∧ i < k.els.length ∧ K (.tup []) (H.set b { k with els := k.els.set i xs })
    | .agg xs, .arr n => onv (H.b b) fun k => k.ro = false ∧ j = 0 ∧ i = 0 ∧ k.esz = 1 ∧ xs.length = n ∧ k.els.length = n ∧ K (.tup []) (H.set b { k with els := xs.map fun x => [x] })
    | _, _ => False
  | _ => False
@[congr] theorem storeK_congr {H : AHeap} {tk : TyK} {K : AV → AHeap → Prop} {xv : AV} {v v' : AV} (h : v = v') : storeK H tk K xv v = storeK H tk K xv v' := by rw [h]
@[simp ↓] theorem storeK_cell (K : AV → AHeap → Prop) (v : AC) (b i j : Nat) : storeK H .cell K (.c v) (.c (.ptr b i j)) = onv (H.b b) fun k => onv (k.els[i]?) fun e => k.ro = false ∧ j < e.length ∧ K (.tup []) (H.set b { k with els := k.els.set i (e.set j v) }) := rfl
@[simp ↓] theorem storeK_obj (K : AV → AHeap → Prop) (n : Nat) (xs : List AC) (b i j : Nat) : storeK H (.obj n) K (.agg xs) (.c (.ptr b i j)) = onv (H.b b) fun k => k.ro = false ∧ j = 0 ∧ n = k.esz ∧ xs.length = n ∧ i < k.els.length ∧ K (.tup []) (H.set b { k with els := k.els.set i xs }) := rfl
@[simp ↓] theorem storeK_arr (K : AV → AHeap → Prop) (n : Nat) (xs : List AC) (b i j : Nat) : storeK H (.arr n) K (.agg xs) (.c (.ptr b i j)) = onv (H.b b) fun k => k.ro = false ∧ j = 0 ∧ i = 0 ∧ k.esz = 1 ∧ xs.length = n ∧ k.els.length = n ∧ K (.tup []) (H.set b { k with els := xs.map fun x => [x] }) := rfl
@[simp ↓] theorem s_store (t : TypeId) (x y : Operand) : astep P Γ H F (.store t x y) KE = onv (tyK P t) fun tk => onv (opnd F x) fun av => onv (opnd F y) fun xv => storeK H tk KE xv av := by
  refine (f_or _).trans ?_
  simp only [aeff]
  cases tyK P t with
  | none => cases opnd F x <;> cases opnd F y <;> rfl
  | some tk => cases opnd F x with
    | none => rfl
    | some av => cases opnd F y with
      | none => rfl
      | some xv => cases av with
        | c a' => cases a' <;> cases xv <;> cases tk <;> rfl
        | _ => cases xv <;> cases tk <;> rfl

@[simp ↓] theorem s_buildSlice (t : TypeId) (len : Nat) (parts : Array (Nat × Operand)) : astep P Γ H F (.buildSlice t len parts) KE = onv (slK P t) fun s => onv (zeroK P s.1) fun z => onv (fillS s.2.1 F (List.replicate len z) parts.toList) fun es =>
      0 < s.2.1 ∧ len * s.2.1 ≤ 1000000 ∧ KE (.c (.sl H.n 0 len)) (H.push ⟨s.1, s.2.1, false, false, es⟩) := f_or _
@[simp ↓] theorem s_makeSlice (t : TypeId) (l c : Operand) : astep P Γ H F (.makeSlice t l c) KE = onv (slK P t) fun s => onv (zeroK P s.1) fun z => onv (opnd F l) (intK fun l => onv (opnd F c) (intK fun c =>
      0 < s.2.1 ∧ 0 ≤ l ∧ l ≤ c ∧ (s.2.2 : Int) * c ≤ 140737488355328 ∧ c ≤ 140737488355328 ∧ KE (.c (.sl H.n 0 l.toNat)) (H.push ⟨s.1, s.2.1, false, false, List.replicate l.toNat z⟩))) := by
  refine (f_or _).trans ?_
  simp only [aeff, asI_onv]

end
end Go.Proofs.YtafenginfojcmaaGreatDoor
