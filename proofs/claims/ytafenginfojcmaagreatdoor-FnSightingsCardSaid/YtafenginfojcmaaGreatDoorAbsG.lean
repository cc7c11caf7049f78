/- The abstract machine, part G: every operation that leaves the heap alone does in the model what it does abstractly. No program is named here. -/
import Derived.Test.YtafenginfojcmaaGreatDoorAbsF
namespace Go.Proofs.YtafenginfojcmaaGreatDoor
open Go.RowKit

section
variable {P : Program} {φ : Nat → Place} {H : AHeap} {F : AFrame} {a : Act} {B : Bd} {w : World}

theorem caps_of (hF : FRep φ H.n F a.tmps) : ∀ {xs : List Operand} {bs : List Nat}, capsOf F xs = some bs → (∀ b ∈ bs, b < H.n) ∧ xs.map a.eval = bs.map fun b => ptrOf (φ b)
  | [], bs, h => by simp [capsOf] at h; subst h; simp
  | x :: r, bs, h => by
    simp only [capsOf] at h
    split at h
    · rename_i b bs' e1 e2
      simp at h; subst h
      obtain ⟨h1, h2⟩ := caps_of hF e2
      obtain ⟨h3, h4⟩ := (show RepC φ H.n (.ptr b 0 0) _ from eval_of hF e1)
      refine ⟨fun c hc => ?_, ?_⟩
      · rcases List.mem_cons.1 hc with rfl | hc
        · exact h3
        · exact h1 c hc
      · simp [h2, h4, ptrOf]
    · simp at h

theorem y_makeFunc {o : Oper} {f : FuncId} {first caps : Array Operand} {K : AV → Prop} (ho : o.op = .makeFunc (.func f) first caps) (hF : FRep φ H.n F a.tmps) (h : apure P H F (.makeFunc (.func f) first caps) K) :
    ∃ v u, K v ∧ RepV φ H.n v u ∧ YieldsAll P a o u := by
  simp only [apure] at h
  obtain ⟨h0, h⟩ := h
  obtain ⟨bs, hb, h⟩ := onv_iff.1 h
  obtain ⟨h1, h2⟩ := caps_of hF hb
  refine ⟨_, _, h, ⟨h1, rfl⟩, fun w' => ?_⟩
  have e1 : first = #[] := Array.eq_empty_of_size_eq_zero h0
  have e2 : caps.map a.eval = (bs.map fun b => ptrOf (φ b)).toArray := by
    rw [← h2]; cases caps; simp
  simp [execOp, ho, Instr.makeFunc, e1, e2]

theorem ofCs_rep {n : Nat} : ∀ {l : List Value} {xs : List AC}, ofCs l = some xs → RepL φ n xs l
  | [], xs, h => by simp [ofCs] at h; subst h; trivial
  | c :: r, xs, h => by
    simp only [ofCs] at h
    split at h
    · rename_i x xs' e1 e2
      simp at h; subst h
      refine ⟨?_, ofCs_rep e2⟩
      unfold ofC at e1
      split at e1 <;> simp at e1 <;> subst e1
      · rfl
      · rfl
      · rename_i s; exact congrArg Value.string (by cases s; simp)
      · exact ⟨_, rfl⟩
    · simp at h

theorem RepL.set {n : Nat} : ∀ {xs : List AC} {vs : List Value} {x : AC} {v : Value} (i : Nat), RepL φ n xs vs → RepC φ n x v → RepL φ n (xs.set i x) (vs.set i v)
  | [], [], _, _, _, _, _ => by simp [RepL]
  | _ :: _, _ :: _, _, _, 0, h, hv => ⟨hv, h.2⟩
  | _ :: _, _ :: _, _, _, i + 1, h, hv => ⟨h.1, RepL.set i h.2 hv⟩
  | [], _ :: _, _, _, _, h, _ => h.elim
  | _ :: _, [], _, _, _, h, _ => h.elim

theorem zeroK_some {t : TypeId} {z : List AC} (h : zeroK P t = some z) : ∃ i zv, P.info? t = some i ∧ i.zero = some zv ∧ zv.cells.size = i.size ∧ ofCs zv.cells.toList = some z := by
  unfold zeroK at h
  simp only [Option.bind_eq_some_iff] at h
  obtain ⟨i, h1, zv, h2, h3⟩ := h
  split at h3
  · rename_i hs; exact ⟨i, zv, h1, h2, hs, h3⟩
  · cases h3

theorem fill_of (hF : FRep φ H.n F a.tmps) {pl : Nat → Option Nat} {pc : Nat → Option (Nat × Nat)} (hp : ∀ i o, pl i = some o → pc i = some (o, 1)) :
    ∀ {parts : List (Nat × Operand)} {z cs : List AC} {zv : List Value}, fillA pl F z parts = some cs → RepL φ H.n z zv →
      ∃ us : List Value, Instr.fill pc zv.toArray (parts.map fun (i, x) => (i, a.eval x)) = some us.toArray ∧ RepL φ H.n cs us
  | [], z, cs, zv, h, hz => by simp [fillA] at h; subst h; exact ⟨zv, rfl, hz⟩
  | (i, x) :: r, z, cs, zv, h, hz => by
    simp only [fillA] at h
    split at h
    · rename_i o v e1 e2
      split at h
      · rename_i ho
        have hv : RepC φ H.n v (a.eval x) := eval_of hF e2
        obtain ⟨us, h1, h2⟩ := fill_of hF hp h (hz.set o hv)
        refine ⟨us, ?_, h2⟩
        have hl := hz.length
        simp only [List.map_cons, Instr.fill, hp i o e1, hv.cells_eq]
        rw [if_neg (by simp [hl]; omega)]
        simpa using h1
      · cases h
    · cases h

theorem y_build {o : Oper} {t : TypeId} {parts : Array (Nat × Operand)} {K : AV → Prop} (ho : o.op = .build t parts) (hF : FRep φ H.n F a.tmps) (h : apure P H F (.build t parts) K) :
    ∃ v u, K v ∧ RepV φ H.n v u ∧ YieldsAll P a o u := by
  simp only [apure] at h
  obtain ⟨z, hz, h⟩ := onv_iff.1 h
  obtain ⟨pl, hpl, h⟩ := onv_iff.1 h
  obtain ⟨cs, hcs, h⟩ := onv_iff.1 h
  obtain ⟨i, zv, g1, g2, g3, g4⟩ := zeroK_some hz
  have hparts : (parts.map fun (i, x) => (i, a.eval x)).toList = parts.toList.map fun (i, x) => (i, a.eval x) := by simp
  have key : ∃ us : List Value, P.built t (parts.map fun (i, x) => (i, a.eval x)).toList = some us.toArray ∧ RepL φ H.n cs us := by
    rw [hparts]
    unfold plK at hpl
    split at hpl
    · rename_i fs hu
      simp only [Option.map_eq_some_iff] at hpl
      obtain ⟨pls, e1, rfl⟩ := hpl
      obtain ⟨us, h1, h2⟩ := fill_of (a := a) hF (pl := plAt (some pls)) (pc := fun i => pls.toArray[i]?) (fun i o hi => by
        simp only [plAt] at hi
        split at hi
        · rename_i o' heq; simp at hi; subst hi; simpa using heq
        · cases hi) hcs (ofCs_rep g4)
      refine ⟨us, ?_, h2⟩
      unfold Program.built
      simp only [g1, hu, g2, e1]
      simpa using h1
    · rename_i n e hu
      split at hpl
      · rename_i he
        simp at hpl; subst hpl
        simp only [Option.map_eq_some_iff] at he
        obtain ⟨ie, e1, e2⟩ := he
        obtain ⟨us, h1, h2⟩ := fill_of (a := a) hF (pl := plAt none) (pc := fun i => some (i * ie.size, ie.size)) (fun i o hi => by
          simp only [plAt] at hi; simp at hi; subst hi; simp [e2]) hcs (ofCs_rep g4)
        refine ⟨us, ?_, h2⟩
        unfold Program.built
        simp only [g1, hu, g2, e1]
        simpa using h1
      · cases hpl
    · cases hpl
  obtain ⟨us, h1, h2⟩ := key
  refine ⟨.agg cs, .agg us.toArray, h, ⟨us, rfl, h2⟩, fun w' => ?_⟩
  simp only [execOp, ho, Sem.run_bind, run_build w' t _ _ h1, Result.andThen_ok, Sem.run_pure]

theorem y_len {o : Oper} {x : Operand} {t : TypeId} {K : AV → Prop} (ho : o.op = .call ⟨.builtin .len, ⟨[x]⟩, ⟨[t]⟩⟩) (hF : FRep φ H.n F a.tmps) (h : apure P H F (.call ⟨.builtin .len, ⟨[x]⟩, ⟨[t]⟩⟩) K) :
    ∃ v u, K v ∧ RepV φ H.n v u ∧ YieldsAll P a o u := by
  simp only [apure] at h
  obtain ⟨v, hv, h⟩ := onv_iff.1 h
  obtain ⟨dk, hd, h⟩ := onv_iff.1 h
  have he := eval_of hF hv
  split at h
  · rename_i s _ _
    have hx : a.eval x = .string _ := he
    refine ⟨_, _, h, rfl, fun w' => ?_⟩
    simp [execOp, ho, resolve, invoke, builtin, Builtin.len_, hx, run_underlying (dK_str hd), goInt, size_mk]
  · obtain ⟨hb, ad, cap, hx, hn, hcap, had⟩ := (show RepC φ H.n (.sl _ _ _) _ from he)
    obtain ⟨e, hu⟩ := dK_slc hd
    refine ⟨_, _, h, rfl, fun w' => ?_⟩
    simp [execOp, ho, resolve, invoke, builtin, Builtin.len_, hx, run_underlying hu, goInt]
  · obtain ⟨hb, ad, cap, hx, hn, hcap, had⟩ := (show RepC φ H.n (.sl _ _ _) _ from he)
    refine ⟨_, _, h, rfl, fun w' => ?_⟩
    simp [execOp, ho, resolve, invoke, builtin, Builtin.len_, hx, run_underlying (dK_bytes hd).1, goInt]
  · obtain ⟨ad, hx⟩ := (show RepC φ H.n .nils _ from he)
    obtain ⟨e, hu⟩ := dK_slc hd
    refine ⟨_, _, h, rfl, fun w' => ?_⟩
    simp [execOp, ho, resolve, invoke, builtin, Builtin.len_, hx, run_underlying hu, goInt]
  · obtain ⟨ad, hx⟩ := (show RepC φ H.n .nils _ from he)
    refine ⟨_, _, h, rfl, fun w' => ?_⟩
    simp [execOp, ho, resolve, invoke, builtin, Builtin.len_, hx, run_underlying (dK_bytes hd).1, goInt]
  · exact h.elim

theorem ints_of (hF : FRep φ H.n F a.tmps) : ∀ {xs : List Operand} {vs : List AV} {l : List Int}, opnds F xs = some vs → ints vs = some l → xs.map a.eval = l.map (Value.int .i64)
  | [], vs, l, h, hl => by simp [opnds] at h; subst h; simp [ints] at hl; subst hl; rfl
  | x :: r, vs, l, h, hl => by
    simp only [opnds] at h
    split at h
    · rename_i v vs' e1 e2
      simp at h; subst h
      unfold ints at hl
      split at hl
      · rename_i heq; cases heq
      · rename_i n r' heq
        cases heq
        simp only [Option.map_eq_some_iff] at hl
        obtain ⟨l', h1, rfl⟩ := hl
        have := ints_of hF e2 h1
        simp [this, show a.eval x = .int .i64 n from eval_of hF e1]
      · cases hl
    · simp at h; subst h; simp [ints] at hl
    · cases h

theorem run_max (w' : World) : ∀ (l : List Int) (x : Int), ((l.map (Value.int .i64)).foldlM Builtin.max2 (Value.int .i64 x)).run P w' = .ok (.int .i64 (l.foldl (fun a b => if b > a then b else a) x)) w'
  | [], x => by simp
  | y :: l, x => by simp [Builtin.max2, run_max w' l]
theorem run_min (w' : World) : ∀ (l : List Int) (x : Int), ((l.map (Value.int .i64)).foldlM Builtin.min2 (Value.int .i64 x)).run P w' = .ok (.int .i64 (l.foldl (fun a b => if b < a then b else a) x)) w'
  | [], x => by simp
  | y :: l, x => by simp [Builtin.min2, run_min w' l]

theorem y_max {o : Oper} {args : Array Operand} {ts : Array TypeId} {K : AV → Prop} (ho : o.op = .call ⟨.builtin .max, args, ts⟩) (hF : FRep φ H.n F a.tmps) (h : apure P H F (.call ⟨.builtin .max, args, ts⟩) K) :
    ∃ v u, K v ∧ RepV φ H.n v u ∧ YieldsAll P a o u := by
  simp only [apure] at h
  obtain ⟨vs, hv, h⟩ := onv_iff.1 h
  obtain ⟨l, hl, h⟩ := onv_iff.1 h
  obtain ⟨m, hm, h⟩ := onv_iff.1 h
  have he := ints_of hF hv hl
  refine ⟨_, _, h, rfl, fun w' => ?_⟩
  have hargs : (args.map a.eval).toList = l.map (Value.int .i64) := by simp [he]
  cases l with
  | nil => cases hm
  | cons x r =>
    simp only [maxI, Option.some.injEq] at hm
    have hr := run_max (P := P) w' r x
    simp only [List.map_cons] at hargs
    simp only [execOp, ho, resolve, invoke, builtin, Sem.run_bind, Sem.run_pure, Result.andThen_ok, Builtin.max_, hargs, hr, hm]

theorem y_min {o : Oper} {args : Array Operand} {ts : Array TypeId} {K : AV → Prop} (ho : o.op = .call ⟨.builtin .min, args, ts⟩) (hF : FRep φ H.n F a.tmps) (h : apure P H F (.call ⟨.builtin .min, args, ts⟩) K) :
    ∃ v u, K v ∧ RepV φ H.n v u ∧ YieldsAll P a o u := by
  simp only [apure] at h
  obtain ⟨vs, hv, h⟩ := onv_iff.1 h
  obtain ⟨l, hl, h⟩ := onv_iff.1 h
  obtain ⟨m, hm, h⟩ := onv_iff.1 h
  have he := ints_of hF hv hl
  refine ⟨_, _, h, rfl, fun w' => ?_⟩
  have hargs : (args.map a.eval).toList = l.map (Value.int .i64) := by simp [he]
  cases l with
  | nil => cases hm
  | cons x r =>
    simp only [minI, Option.some.injEq] at hm
    have hr := run_min (P := P) w' r x
    simp only [List.map_cons] at hargs
    simp only [execOp, ho, resolve, invoke, builtin, Sem.run_bind, Sem.run_pure, Result.andThen_ok, Builtin.min_, hargs, hr, hm]

/-- operations whose value the slots alone fix -/
def calmB : Op → Bool
  | .move _ => true
  | .assign _ => true
  | .pick _ _ _ => true
  | .extract _ _ => true
  | .unOp _ _ _ => true
  | .nilCheck _ => true
  | .fieldAddr _ _ _ => true
  | .indexAddr _ _ _ => true
  | .slice _ _ _ _ _ => true
  | .field _ _ _ => true
  | .index _ _ _ => true
  | .binOp _ _ _ _ _ => true
  | .build _ _ => true
  | .call ⟨.builtin .len, ⟨[_]⟩, ⟨[_]⟩⟩ => true
  | .call ⟨.builtin .max, _, _⟩ => true
  | .call ⟨.builtin .min, _, _⟩ => true
  | _ => false
theorem apure_calm {o : Oper} {op : Op} {K : AV → Prop} (hc : calmB op = true) (ho : o.op = op) (hH : HRep φ B H w) (hF : FRep φ H.n F a.tmps) (h : apure P H F op K) :
    ∃ v u, K v ∧ RepV φ H.n v u ∧ YieldsAll P a o u := by
  unfold calmB at hc
  split at hc
  · exact y_small ho hF h (.inl ⟨_, rfl⟩)
  · exact y_small ho hF h (.inr (.inl ⟨_, rfl⟩))
  · exact y_small ho hF h (.inr (.inr (.inl ⟨_, _, _, rfl⟩)))
  · exact y_small ho hF h (.inr (.inr (.inr (.inl ⟨_, _, rfl⟩))))
  · exact y_small ho hF h (.inr (.inr (.inr (.inr (.inl ⟨_, _, _, rfl⟩)))))
  · exact y_small ho hF h (.inr (.inr (.inr (.inr (.inr ⟨_, rfl⟩)))))
  · exact y_fieldAddr ho hF h
  · exact y_indexAddr ho hH hF h
  · exact y_slice ho hH hF h
  · exact y_field ho hF h
  · exact y_index ho hF h
  · exact y_binOp ho hF h
  · exact y_build ho hF h
  · exact y_len ho hF h
  · exact y_max ho hF h
  · exact y_min ho hF h
  · cases hc

/-- SOUNDNESS of the operations that leave the heap alone -/
theorem apure_sound {o : Oper} {op : Op} {K : AV → Prop} (ho : o.op = op) (hH : HRep φ B H w) (hF : FRep φ H.n F a.tmps) (h : apure P H F op K) :
    ∃ v u, K v ∧ RepV φ H.n v u ∧ Yields P a o w u := by
  cases op with
  | move x => exact all_y (y_small ho hF h (.inl ⟨_, rfl⟩))
  | assign x => exact all_y (y_small ho hF h (.inr (.inl ⟨_, rfl⟩)))
  | pick c x y => exact all_y (y_small ho hF h (.inr (.inr (.inl ⟨_, _, _, rfl⟩))))
  | extract x i => exact all_y (y_small ho hF h (.inr (.inr (.inr (.inl ⟨_, _, rfl⟩)))))
  | unOp u t x => exact all_y (y_small ho hF h (.inr (.inr (.inr (.inr (.inl ⟨_, _, _, rfl⟩))))))
  | nilCheck x => exact all_y (y_small ho hF h (.inr (.inr (.inr (.inr (.inr ⟨_, rfl⟩))))))
  | load t x => exact y_load ho hH hF h
  | fieldAddr t x f => exact all_y (y_fieldAddr ho hF h)
  | indexAddr t x ix => exact all_y (y_indexAddr ho hH hF h)
  | slice t x lo hi mx => exact all_y (y_slice ho hH hF h)
  | convert s d x => exact y_convert ho hH hF h
  | field t x f => exact all_y (y_field ho hF h)
  | index t x ix => exact all_y (y_index ho hF h)
  | binOp op t x y t' => exact all_y (y_binOp ho hF h)
  | build t parts => exact all_y (y_build ho hF h)
  | makeFunc fn first caps =>
    cases fn with
    | func f => exact all_y (y_makeFunc ho hF h)
    | _ => exact h.elim
  | call c =>
    obtain ⟨callee, ⟨args⟩, ⟨ts⟩⟩ := c
    cases callee with
    | builtin b =>
      cases b with
      | len =>
        match args, ts, h, ho with
        | [x], [t], h, ho => exact all_y (y_len ho hF h)
        | [], _, h, _ => exact h.elim
        | [_], [], h, _ => exact h.elim
        | [_], _ :: _ :: _, h, _ => exact h.elim
        | _ :: _ :: _, _, h, _ => exact h.elim
      | max => exact all_y (y_max ho hF h)
      | min => exact all_y (y_min ho hF h)
      | _ => exact h.elim
    | _ => exact h.elim
  | _ => exact h.elim

end
end Go.Proofs.YtafenginfojcmaaGreatDoor
