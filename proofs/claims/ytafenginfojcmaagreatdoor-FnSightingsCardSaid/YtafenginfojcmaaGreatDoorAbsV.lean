/- The abstract machine, part V: one order tells all orders. No program is named here. -/
import Derived.Test.YtafenginfojcmaaGreatDoorAbsU
namespace Go.Proofs.YtafenginfojcmaaGreatDoor
open Go Go.RowKit

section
variable {P : Program} {Γ : Env} {N n0 : Nat} {φ0 : Nat → Place} {B : Bd} {w0 : World} {ops : Array Oper} {ms : List Nat} {wl : WL} {L0 L : List Nat} {wv : Nat → AV} {kb : List (Nat × ABlk)} {K : AFrame → AHeap → Prop}

/-- an operation that has run ahead of its turn: its value stands in its slot -/
structure Pend (P : Program) (ops : Array Oper) (a : Act) (w : World) (p : Option Nat) (kd : FK) (wa : Value → Prop) (la : Act → Oper → Value → Prop) (lm : World → Act → Oper → Value → Prop) (o : Oper) : Prop where
  ex : ∃ u, (∀ d, o.dst = some d → a.tmps[d]? = some u) ∧ ((Region.wanted o (yielded ops a.tmps) = true ∧
      match kd with
      | .calm => p = none ∧ ∃ wm, (execOp a.eval o).run P wm = .ok (.value u) wm
      | .read => p = none ∧ Yields P a o w u
      | .watch => p = none ∧ wa u
      | .late => p = none ∧ la a o u
      | .lateM => p = none ∧ lm w a o u
      | .make => ∃ wm cs ty, p = some wm.heap.size ∧ (execOp a.eval o).run P wm = .ok (.value u) (wm.alloc (.cells cs ty)) ∧ w.heap[wm.heap.size]? = some (.cells cs ty) ∧ ∀ t n ps, o.op = .buildSlice t n ps → u = .slice (some ⟨wm.heap.size, 0, none⟩) n n
      | .anch => False) ∨ (Region.wanted o (yielded ops a.tmps) = false ∧ p = none ∧ u = undef))

/-- what a watched value stands for, whatever blocks are added -/
def wat (n0 : Nat) (φ0 : Nat → Place) (v : AV) (u : Value) : Prop := ∀ φ' m, n0 ≤ m → (∀ b, b < n0 → φ' b = φ0 b) → RepV φ' m v u
theorem Pend.put {a : Act} {w w' : World} {p : Option Nat} {kd : FK} {wa : Value → Prop} {la : Act → Oper → Value → Prop} {lm lm' : World → Act → Oper → Value → Prop} {o : Oper} {d : Option Tmp} {u : Value} (hsel : ∀ cs b, o.op ≠ .select cs b) (h : Pend P ops a w p kd wa la lm o) (h1 : ∀ t, d = some t → t ∉ o.looksAt ops) (h2 : ∀ t, d = some t → o.dst ≠ some t)
    (h3 : kd = .read → Below w.heap.size w w') (h4 : ∀ c, p = some c → w'.heap[c]? = w.heap[c]?) (h5 : kd = .late → ∀ x, la a o x → la (a.put d u) o x) (h6 : kd = .lateM → ∀ x, lm w a o x → lm' w' (a.put d u) o x) : Pend P ops (a.put d u) w' p kd wa la lm' o := by
  obtain ⟨v, hv, hk⟩ := h.ex
  have e1 := execOp_put (ops := ops) o hsel a d u h1
  have e2 := wanted_put (ops := ops) o a d u h1
  refine ⟨v, fun t ht => ?_, ?_⟩
  · cases d with
    | none => exact hv t ht
    | some t' =>
      have : t' ≠ t := fun e => h2 t' rfl (by rw [ht, e])
      simp only [Act.put]
      rw [Array.getElem?_setIfInBounds_ne this]
      exact hv t ht
  · rw [e1, e2]
    rcases hk with ⟨hw, hk⟩ | hk
    · refine .inl ⟨hw, ?_⟩
      cases kd with
      | calm => exact hk
      | read =>
        refine ⟨hk.1, fun w'' hb => ?_⟩
        rw [e1]
        exact hk.2 w'' ((h3 rfl).trans (hb.mono (h3 rfl).size))
      | watch => exact hk
      | late => exact ⟨hk.1, h5 rfl _ hk.2⟩
      | lateM => exact ⟨hk.1, h6 rfl _ hk.2⟩
      | make =>
        obtain ⟨wm, cs, ty, g1, g2, g3, g4⟩ := hk
        exact ⟨wm, cs, ty, g1, g2, by rw [h4 _ g1]; exact g3, g4⟩
      | anch => exact hk.elim
    · exact .inr hk

theorem Pend.mono {a : Act} {w : World} {p p' : Option Nat} {kd : FK} {wa : Value → Prop} {la : Act → Oper → Value → Prop} {lm lm' : World → Act → Oper → Value → Prop} {o : Oper} (h : Pend P ops a w p kd wa la lm o) (hp : p' = p) (h6 : kd = .lateM → ∀ x, lm w a o x → lm' w a o x) : Pend P ops a w p' kd wa la lm' o := by
  subst hp
  obtain ⟨v, hv, hk⟩ := h.ex
  refine ⟨v, hv, ?_⟩
  rcases hk with ⟨hw, hk⟩ | hk
  · refine .inl ⟨hw, ?_⟩
    cases kd with
    | lateM => exact ⟨hk.1, h6 rfl _ hk.2⟩
    | _ => exact hk
  · exact .inr hk
/-- what a late read of a row that the region makes stands for: it depends on one block alone, and that one is its row's (pq) -/
def latM (P : Program) (pq : Nat → Prop) (w : World) (a : Act) (o : Oper) (u : Value) : Prop := (∀ w'', (execOp a.eval o).run P w'' = .ok (.value u) w'') ∨ ∃ q c, pq q ∧ w.heap[q]? = some c ∧ ∀ w'' : World, w''.heap[q]? = some c → (execOp a.eval o).run P w'' = .ok (.value u) w''
theorem latM.run {pq : Nat → Prop} {w : World} {a : Act} {o : Oper} {u : Value} (h : latM P pq w a o u) : (execOp a.eval o).run P w = .ok (.value u) w := by
  rcases h with h | ⟨q, c, _, h1, h2⟩
  · exact h w
  · exact h2 w h1
theorem latM.mono {pq pq' : Nat → Prop} {w : World} {a : Act} {o : Oper} {u : Value} (h : latM P pq w a o u) (hp : ∀ q, pq q → pq' q) : latM P pq' w a o u := by
  rcases h with h | ⟨q, c, h0, h1, h2⟩
  · exact .inl h
  · exact .inr ⟨q, c, hp q h0, h1, h2⟩
theorem latM_put {pq pq' : Nat → Prop} {a : Act} {w w' : World} {o : Oper} {u y : Value} {d : Option Tmp} (hsel : ∀ cs b, o.op ≠ .select cs b) (h1 : ∀ t, d = some t → t ∉ o.looksAt ops) (h : latM P pq w a o u) (hp : ∀ q, pq q → pq' q) (hw : ∀ q, pq q → q < w.heap.size → w'.heap[q]? = w.heap[q]?) : latM P pq' w' (a.put d y) o u := by
  have e1 := execOp_put (ops := ops) o hsel a d y h1
  rcases h with h | ⟨q, c, g0, g1, g2⟩
  · exact .inl fun w'' => by rw [e1]; exact h w''
  · exact .inr ⟨q, c, hp q g0, by rw [hw q g0 (Array.getElem?_eq_some_iff.1 g1).1]; exact g1, fun w'' hw'' => by rw [e1]; exact g2 w'' hw''⟩
/-- the row of a late read: it waits ahead of its turn, or it has had it -/
def pqOf (wl : WL) (pm : Nat → Option Nat) (R : List Nat) (i : Nat) : Nat → Prop := fun q => ∀ zm, mOf wl i = some zm → zm.2 ∈ R → pm zm.2 = some q

/-- what a late read stands for: its address leads into a row that stays -/
def lat (P : Program) (n0 : Nat) (φ0 : Nat → Place) (kb : List (Nat × ABlk)) (a : Act) (o : Oper) (u : Value) : Prop := ∃ (t : TypeId) (x : Tmp) (v0 v : AV) (y : Value), o.op = .load t (.tmp x) ∧ plainV v = true ∧ a.tmps[x]? = some y ∧
  (∀ φ' m, n0 ≤ m → (∀ b, b < n0 → φ' b = φ0 b) → RepV φ' m v0 y) ∧ (∀ H', keepB H' kb → apure P H' [(x, v0)] o.op (fun v' => v' = v)) ∧ ∀ φ' m, RepV φ' m v u
theorem lat_put {a : Act} {o : Oper} {u : Value} {d : Option Tmp} {y : Value} (h1 : ∀ t, d = some t → t ∉ o.looksAt ops) (h : lat P n0 φ0 kb a o u) : lat P n0 φ0 kb (a.put d y) o u := by
  obtain ⟨t, x, v0, v, z, e1, e2, e3, e4, e5, e6⟩ := h
  refine ⟨t, x, v0, v, z, e1, e2, ?_, e4, e5, e6⟩
  cases d with
  | none => exact e3
  | some d =>
    have hx : x ∈ o.looksAt ops := List.mem_append_left _ (List.mem_filterMap.2 ⟨.tmp x, by rw [e1]; simp [Op.operands], rfl⟩)
    have hne : d ≠ x := fun e => h1 d rfl (e ▸ hx)
    simp only [Act.put]
    rw [Array.getElem?_setIfInBounds_ne hne]
    exact e3
theorem lat_frame {φ : Nat → Place} {n : Nat} {a : Act} {x : Tmp} {v0 : AV} {y : Value} (h3 : a.tmps[x]? = some y) (h : RepV φ n v0 y) : FRep φ n [(x, v0)] a.tmps := fun t v hv => by
  simp only [AFrame.get] at hv
  split at hv
  · rename_i e; subst e; cases hv; exact ⟨y, h3, h⟩
  · cases hv
/-- the slots that late reads write -/
def ltOf (ops : Array Oper) (wl : WL) : List Tmp := wl.l.filterMap fun i => (ops[i]?).bind (·.dst)
/-- the watched reads and what they read -/
def wsOf (ops : Array Oper) (wl : WL) (wv : Nat → AV) : List (Op × AV) := wl.w.filterMap fun i => (ops[i]?).map fun o => (o.op, wv i)
/-- the model's state beside the abstract one: D has had its turn, R has not; some of R have run already -/
structure Sim (P : Program) (Γ : Env) (N n0 : Nat) (φ0 : Nat → Place) (B : Bd) (w0 : World) (ops : Array Oper) (wl : WL) (L0 L : List Nat) (wv : Nat → AV) (kb : List (Nat × ABlk)) (K : AFrame → AHeap → Prop) (D R : List Nat) (listed : Array Bool) (pm : Nat → Option Nat)
    (φ : Nat → Place) (F : AFrame) (H : AHeap) (a : Act) (w : World) : Prop where
  split : L = D ++ R
  done0 : ∀ i ∈ L0, listed.getD i false = true
  done : ∀ i ∈ D, listed.getD i false = true
  heap : HRep φ ⟨B.B, fun c => B.T c ∨ ∃ i, pm i = some c⟩ H w
  fr : FRep φ H.n F a.tmps
  size : a.tmps.size = N
  nod : a.defers = []
  below : Kept B w0 w
  n : n0 ≤ H.n
  agree : ∀ b, b < n0 → φ b = φ0 b
  pmB : ∀ i p, pm i = some p → B.B ≤ p ∧ ¬ B.T p
  pmI : ∀ i j p, pm i = some p → pm j = some p → i = j
  pmR : ∀ i p, pm i = some p → i ∈ R ∧ listed.getD i false = true
  pend : ∀ i ∈ R, listed.getD i false = true → ∃ o, ops[i]? = some o ∧ kindAt wl i o ≠ .anch ∧ Pend P ops a w (pm i) (kindAt wl i o) (wat n0 φ0 (wv i)) (lat P n0 φ0 kb) (latM P (pqOf wl pm R i)) o
  fresh : ∀ i ∈ R, ∀ o, ops[i]? = some o → kindAt wl i o ≠ .anch → ∀ d, o.dst = some d → F.get d = none
  closed : Closed ops listed
  lsz : listed.size = ops.size
  plain : ∀ i ∈ wl.w, heldV n0 (wv i)
  kbn : ∀ p ∈ kb, p.1 < n0
  nx : aopsW P Γ N (wsOf ops wl wv) kb (ltOf ops wl) (R.filterMap fun i => (ops[i]?).map (prepOp ops)) F H K

theorem kindAt_of {i : Nat} {o : Oper} {k : FK} (h : kindAt wl i o = k) (hk : k ≠ .watch ∧ k ≠ .lateM) (hk2 : k ≠ .late) : kindOf o = k := by
  unfold kindAt at h
  split at h
  · exact absurd h.symm hk.1
  · split at h
    · exact absurd h.symm hk2
    · split at h
      · exact absurd h.symm hk.2
      · exact h
theorem kindOf_w {o : Oper} (h : kindOf o = .watch ∨ kindOf o = .late ∨ kindOf o = .lateM) : False := by
  unfold kindOf at h
  split at h
  · rcases h with h | h | h <;> cases h
  · rcases h with h | h | h <;> cases h
  · split at h
    · rcases h with h | h | h <;> cases h
    · split at h <;> rcases h with h | h | h <;> cases h
theorem kindAt_watch {i : Nat} {o : Oper} (h : kindAt wl i o = .watch) : i ∈ wl.w := by
  unfold kindAt at h
  split at h
  · rename_i hc; simpa using hc
  · split at h
    · cases h
    · split at h
      · cases h
      · exact (kindOf_w (.inl h)).elim
theorem kindAt_late {i : Nat} {o : Oper} (h : kindAt wl i o = .late) : i ∈ wl.l := by
  unfold kindAt at h
  split at h
  · cases h
  · split at h
    · rename_i hc; simpa using hc
    · split at h
      · cases h
      · exact (kindOf_w (.inr (.inl h))).elim
theorem kindAt_lateM {i : Nat} {o : Oper} (h : kindAt wl i o = .lateM) : ∃ z m, mOf wl i = some (z, m) := by
  unfold kindAt at h
  split at h
  · cases h
  · split at h
    · cases h
    · split at h
      · rename_i hc
        obtain ⟨⟨z, m⟩, hz⟩ := Option.isSome_iff_exists.1 hc
        exact ⟨z, m, hz⟩
      · exact (kindOf_w (.inr (.inr h))).elim
theorem waitsB_ex {o : Oper} {j : Nat} (h : waitsB o j = true) : ∃ e ∈ o.after, Region.binds .any e = true ∧ e.on = j := by
  unfold waitsB at h
  obtain ⟨e, he, h⟩ := List.any_eq_true.1 h
  simp only [Bool.and_eq_true, beq_iff_eq] at h
  exact ⟨e, Array.mem_toList_iff.1 he, h.1, h.2⟩
/-- where a late read may run, its row has been made -/
theorem lm_listed (hO : OrderOk ops ms wl L0 L) {listed : Array Bool} (hc : Closed ops listed) {i z m : Nat} (hm : mOf wl i = some (z, m)) (hw : WaitsIn ops listed i) : listed.getD z false = true ∧ listed.getD m false = true := by
  obtain ⟨oi, oz, om, ti, tz, tm, x, y, ix, n, ps, e1, e2, e3, _, _, _, _, _, _, _, _, w1, w2, _⟩ := hO.mlo i z m hm
  obtain ⟨e, h1, h2, rfl⟩ := waitsB_ex w1
  have hz := hw oi e1 e h1 h2
  obtain ⟨e', h3, h4, rfl⟩ := waitsB_ex w2
  exact ⟨hz, hc e.on oz e2 hz e' h3 h4⟩
theorem lateD_of {i : Nat} {o : Oper} {d : Tmp} (h : i ∈ wl.l) (ho : ops[i]? = some o) (hd : o.dst = some d) : lateD (ltOf ops wl) o.dst = true := by
  rw [hd]
  simp only [lateD, List.contains_iff_mem]
  exact List.mem_filterMap.2 ⟨i, h, by rw [ho]; exact hd⟩
theorem ws_mem {i : Nat} {o : Oper} (h : i ∈ wl.w) (ho : ops[i]? = some o) : (o.op, wv i) ∈ wsOf ops wl wv := List.mem_filterMap.2 ⟨i, h, by rw [ho]; rfl⟩
theorem still_eff {o : Oper} {H : AHeap} {F : AFrame} {K : AV → AHeap → Prop} (hs : still o = true) (h : aeff P H F o.op K) : False := by
  unfold still at hs
  split at hs
  · rename_i e; rw [e] at h; exact h
  · cases hs
theorem put_get {F : AFrame} {d : Option Tmp} {v : AV} {t : Tmp} (h : ∀ s, d = some s → s ≠ t) : (F.put d v).get t = F.get t := by
  cases d with
  | none => rfl
  | some s => simp [AFrame.put, AFrame.get, h s rfl]
theorem FRep.at {φ : Nat → Place} {n : Nat} {F : AFrame} {tmps : Array Value} (h : FRep φ n F tmps) {d : Option Tmp} {v : AV} {u : Value} (hu : ∀ t, d = some t → tmps[t]? = some u) (hv : RepV φ n v u) : FRep φ n (F.put d v) tmps := by
  cases d with
  | none => exact h
  | some d =>
    intro t x hx
    simp only [AFrame.put, AFrame.get] at hx
    split at hx
    · rename_i e; subst e; simp at hx; subst hx
      exact ⟨u, hu d rfl, hv⟩
    · exact h t x hx
theorem FRep.over {φ : Nat → Place} {n : Nat} {F : AFrame} {a : Act} (h : FRep φ n F a.tmps) {d : Option Tmp} {u : Value} (hf : ∀ t, d = some t → F.get t = none) : FRep φ n F (a.put d u).tmps := by
  cases d with
  | none => exact h
  | some d =>
    intro t x hx
    obtain ⟨y, h1, h2⟩ := h t x hx
    have : d ≠ t := fun e => by rw [e] at hf; rw [hf t rfl] at hx; cases hx
    exact ⟨y, by simp only [Act.put]; rw [Array.getElem?_setIfInBounds_ne this]; exact h1, h2⟩

theorem getD_set_true' {listed : Array Bool} {i : Nat} (h : i < listed.size) : (listed.setIfInBounds i true).getD i false = true := by simp [h]
theorem getD_set_or {listed : Array Bool} {i j : Nat} (h : (listed.setIfInBounds i true).getD j false = true) : j = i ∨ listed.getD j false = true := by
  by_cases e : i = j
  · exact .inl e.symm
  · exact .inr (by rwa [getD_set_ne false e] at h)
theorem closed_set {listed : Array Bool} {i : Nat} (hc : Closed ops listed) (hw : WaitsIn ops listed i) : Closed ops (listed.setIfInBounds i true) := fun j o ho hl e he hb => by
  rcases getD_set_or hl with rfl | hl
  · exact getD_set_true (hw o ho e he hb)
  · exact getD_set_true (hc j o ho hl e he hb)

/-- its turn comes, and it has run already -/
theorem Sim.consume (hO : OrderOk ops ms wl L0 L) (_hΓ : SoundE P Γ) {D R : List Nat} {i : Nat} {listed : Array Bool} {pm : Nat → Option Nat} {φ : Nat → Place} {F : AFrame} {H : AHeap} {a : Act} {w : World}
    (h : Sim P Γ N n0 φ0 B w0 ops wl L0 L wv kb K D (i :: R) listed pm φ F H a w) (hl : listed.getD i false = true) : ∃ pm' φ' F' H', Sim P Γ N n0 φ0 B w0 ops wl L0 L wv kb K (D ++ [i]) R listed pm' φ' F' H' a w ∧ ∀ j, j ≠ i → pm' j = pm j := by
  obtain ⟨o, ho, hk, hp⟩ := h.pend i (by simp) hl
  obtain ⟨u, hu, hp⟩ := hp.ex
  have hnx := h.nx
  simp only [List.filterMap_cons, ho, Option.map_some, aopsW] at hnx
  obtain ⟨⟨hwt, hkp, hlc⟩, hd, hnx⟩ := hnx
  have hpw := hO.pairs
  rw [h.split] at hpw
  have hcons := (List.pairwise_append.1 hpw).2.1
  have hpair : ∀ j ∈ R, ∃ oj, ops[j]? = some oj ∧ OkP ops ms wl i j o oj := fun j hj => by
    obtain ⟨ox, oy, e1, e2, e3⟩ := okP_spec (List.rel_of_pairwise_cons hcons hj)
    rw [ho] at e1; cases e1
    exact ⟨oy, e2, e3⟩
  have hnot : i ∉ R := fun hi => by obtain ⟨_, _, hz⟩ := hpair i hi; exact hz.ne rfl
  have base : ∀ (pm' : Nat → Option Nat) φ' v H', (∀ j, j ≠ i → pm' j = pm j) → pm' i = none → HRep φ' ⟨B.B, fun c => B.T c ∨ ∃ j, pm' j = some c⟩ H' w → FRep φ' H'.n F a.tmps → RepV φ' H'.n v u → H.n ≤ H'.n → (∀ b, b < H.n → φ' b = φ b) →
      aopsW P Γ N (wsOf ops wl wv) kb (ltOf ops wl) (R.filterMap fun i => (ops[i]?).map (prepOp ops)) (F.put o.dst v) H' K → ∃ pm' φ' F' H', Sim P Γ N n0 φ0 B w0 ops wl L0 L wv kb K (D ++ [i]) R listed pm' φ' F' H' a w ∧ ∀ j, j ≠ i → pm' j = pm j := by
    intro pm' φ' v H' hpm hpi hH hF hv hn ha hx
    have hsub : ∀ j p, pm' j = some p → pm j = some p ∧ j ≠ i := fun j p hj => by
      by_cases e : j = i
      · rw [e, hpi] at hj; cases hj
      · exact ⟨by rw [← hpm j e]; exact hj, e⟩
    refine ⟨pm', φ', F.put o.dst v, H', ⟨by rw [h.split]; simp, h.done0, fun j hj => ?_, hH, hF.at hu hv, h.size, h.nod, h.below, Nat.le_trans h.n hn, fun b hb => (ha b (Nat.lt_of_lt_of_le hb h.n)).trans (h.agree b hb), fun j p hj => h.pmB j p (hsub j p hj).1,
      fun j j' p h1 h2 => h.pmI j j' p (hsub j p h1).1 (hsub j' p h2).1, fun j p hj => ?_, fun j hj hlj => ?_, fun j hj oj hoj hkj d hdj => ?_, h.closed, h.lsz, h.plain, h.kbn, hx⟩, hpm⟩
    · rcases List.mem_append.1 hj with hj | hj
      · exact h.done j hj
      · rw [List.mem_singleton.1 hj]; exact hl
    · obtain ⟨h1, h2⟩ := hsub j p hj
      obtain ⟨h3, h4⟩ := h.pmR j p h1
      exact ⟨(List.mem_cons.1 h3).resolve_left h2, h4⟩
    · have hne : j ≠ i := fun e => hnot (e ▸ hj)
      obtain ⟨oj, h1, h2, h3⟩ := h.pend j (by simp [hj]) hlj
      exact ⟨oj, h1, h2, h3.mono (hpm j hne) fun _ u hu => hu.mono fun q hq zm hz hmR => by rw [hpm _ fun e => hnot (by rw [← e]; exact hmR)]; exact hq zm hz (List.mem_cons_of_mem _ hmR)⟩
    · rw [put_get]
      · exact h.fresh j (by simp [hj]) oj hoj hkj d hdj
      · intro s hs e
        obtain ⟨oj', e1, e2⟩ := hpair j hj
        rw [hoj] at e1; cases e1
        exact e2.dst (.inl hk) s hs (by rw [hdj, e])
  have hsame : ∀ v, pm i = none → RepV φ H.n v u → aopsW P Γ N (wsOf ops wl wv) kb (ltOf ops wl) (R.filterMap fun i => (ops[i]?).map (prepOp ops)) (F.put o.dst v) H K → ∃ pm' φ' F' H', Sim P Γ N n0 φ0 B w0 ops wl L0 L wv kb K (D ++ [i]) R listed pm' φ' F' H' a w ∧ ∀ j, j ≠ i → pm' j = pm j :=
    fun v hpi hv hx => base pm φ v H (fun _ _ => rfl) hpi h.heap h.fr hv (Nat.le_refl _) (fun _ _ => rfl) hx
  rcases guard_of h.fr hnx with ⟨hw, hx⟩ | ⟨hw, hx⟩
  · rcases hp with ⟨_, hp⟩ | ⟨hw', _⟩
    · split at hp
      · rename_i hkd
        obtain ⟨hpi, wm, hrun⟩ := hp
        obtain ⟨v, u', h1, h2, h3⟩ := apure_calm (o := o) (kind_calm (kindAt_of hkd ⟨by decide, by decide⟩ (by decide))) rfl h.heap h.fr (calm_step (kind_calm (kindAt_of hkd ⟨by decide, by decide⟩ (by decide))) hx)
        have := (h3 wm).symm.trans hrun
        have e : u' = u := by simpa using this
        subst e
        exact hsame v hpi h2 h1
      · rename_i hkd
        obtain ⟨hpi, hy⟩ := hp
        obtain ⟨t, x, hop⟩ := kind_read (kindAt_of hkd ⟨by decide, by decide⟩ (by decide))
        have hx' := hx
        simp only [prepOp, hop] at hx'
        obtain ⟨v, u', h1, h2, h3⟩ := apure_sound (o := o) hop h.heap h.fr (read_step hx')
        have := (h3 w (Below.refl _ _)).symm.trans (hy w (Below.refl _ _))
        have e : u' = u := by simpa using this
        subst e
        exact hsame v hpi h2 h1
      · rename_i hkd
        obtain ⟨hpi, hrep⟩ := hp
        have hiw := kindAt_watch hkd
        obtain ⟨o', t, x, ho', hop, _⟩ := hO.wlo i hiw
        rw [ho] at ho'; cases ho'
        have hx' := hx
        simp only [prepOp, hop] at hx'
        have hwv := watchB_mem hwt _ (ws_mem hiw ho)
        simp only [hop] at hwv
        obtain ⟨v, u', ⟨h1, h1'⟩, h2, h3⟩ := apure_sound (o := o) hop h.heap h.fr (load_and (read_step hx') hwv)
        subst h1'
        exact hsame _ hpi (hrep _ _ h.n h.agree) h1
      · rename_i hkd
        obtain ⟨hpi, t, x, v0, v, y, hop, hpl, hty, hr0, hap, hrv⟩ := hp
        have hx' := hx
        simp only [prepOp, hop] at hx'
        obtain ⟨v1, u1, h1, h2, h3⟩ := apure_sound (o := o) hop h.heap h.fr (read_step hx')
        obtain ⟨v2, u2, rfl, h2', h3'⟩ := apure_sound (o := o) rfl h.heap (lat_frame hty (hr0 _ _ h.n h.agree)) (hap _ hkp)
        have := (h3 w (Below.refl _ _)).symm.trans (h3' w (Below.refl _ _))
        have e : u1 = u2 := by simpa using this
        have e2 : u2 = u := plainV_unique hpl h2' (hrv φ H.n)
        subst e
        subst e2
        exact hsame v1 hpi h2 h1
      · rename_i hkd
        obtain ⟨hpi, hlm⟩ := hp
        obtain ⟨z, m, hm⟩ := kindAt_lateM hkd
        obtain ⟨oi, _, _, ti, _, _, x, _, _, _, _, e1, _, _, hop, _⟩ := hO.mlo i z m hm
        rw [ho] at e1; cases e1
        have hx' := hx
        simp only [prepOp, hop] at hx'
        obtain ⟨v, u', h1, h2, h3⟩ := apure_sound (o := o) hop h.heap h.fr (read_step hx')
        have := (h3 w (Below.refl _ _)).symm.trans hlm.run
        have e : u' = u := by simpa using this
        subst e
        exact hsame v hpi h2 h1
      · rename_i hkd
        obtain ⟨wm, cs, ty, hpi, hrun, hcell, _⟩ := hp
        obtain ⟨cs', k, cap, mk, v, h1, h2, h3, h4, h5, h6, h7, h8, _⟩ := make_of (o := o) (kind_make (kindAt_of hkd ⟨by decide, by decide⟩ (by decide))) rfl h.fr (make_step (kind_make (kindAt_of hkd ⟨by decide, by decide⟩ (by decide))) hx)
        have h9 := (h1 wm).symm.trans hrun
        simp only [Result.ok.injEq, Next.value.injEq, World.alloc, World.mk.injEq, and_true] at h9
        obtain ⟨rfl, h10⟩ := h9
        have h11 : (wm.heap.push (.cells cs' k.ty))[wm.heap.size]? = (wm.heap.push (.cells cs ty))[wm.heap.size]? := by rw [h10]
        simp only [Array.getElem?_push_size, Option.some.injEq, Obj.cells.injEq] at h11
        obtain ⟨rfl, rfl, _⟩ := h11
        refine base (fun j => if j = i then none else pm j) (updP φ H.n ⟨wm.heap.size, 0, k.esz, cap⟩) v (H.push k) (fun j hj => by simp [hj]) (by simp)
          (h.heap.pushAt (fun c hc => ?_) h3 (.inr ⟨i, hpi⟩) ?_ (h.pmB i _ hpi).1 hcell h4 h5 h6 h7) (h.fr.mono updP_old (Nat.le_succ _)) (h8 _) (Nat.le_succ _) updP_old h2
        · rcases hc with hc | ⟨j, hj⟩
          · exact .inl hc
          · refine .inr ⟨j, ?_⟩
            split at hj
            · cases hj
            · exact hj
        · rintro (hc | ⟨j, hj⟩)
          · exact (h.pmB i _ hpi).2 hc
          · split at hj
            · cases hj
            · rename_i hne; exact hne (h.pmI j i _ hj hpi)
      · exact hp.elim
    · rw [hw] at hw'; cases hw'
  · rcases hp with ⟨hw', _⟩ | ⟨_, hpi, rfl⟩
    · rw [hw] at hw'; cases hw'
    · exact hsame (.tup []) hpi ⟨[], rfl, trivial⟩ hx

theorem Sim.consumes (hO : OrderOk ops ms wl L0 L) (hΓ : SoundE P Γ) : ∀ (R1 : List Nat) {D R : List Nat} {listed : Array Bool} {pm : Nat → Option Nat} {φ : Nat → Place} {F : AFrame} {H : AHeap} {a : Act} {w : World},
    Sim P Γ N n0 φ0 B w0 ops wl L0 L wv kb K D (R1 ++ R) listed pm φ F H a w → (∀ i ∈ R1, listed.getD i false = true) → ∃ pm' φ' F' H', Sim P Γ N n0 φ0 B w0 ops wl L0 L wv kb K (D ++ R1) R listed pm' φ' F' H' a w
  | [], D, R, listed, pm, φ, F, H, a, w, h, _ => ⟨pm, φ, F, H, by simpa using h⟩
  | i :: R1, D, R, listed, pm, φ, F, H, a, w, h, hl => by
    obtain ⟨pm', φ', F', H', h', _⟩ := Sim.consume hO hΓ h (hl i (by simp))
    obtain ⟨pm2, φ2, F2, H2, h2⟩ := Sim.consumes hO hΓ R1 h' fun j hj => hl j (by simp [hj])
    exact ⟨pm2, φ2, F2, H2, by simpa using h2⟩

/-- what the head of the rest waits for has had its turn -/
theorem Sim.waits (hO : OrderOk ops ms wl L0 L) {D R1 R : List Nat} {i : Nat} {listed : Array Bool} {pm : Nat → Option Nat} {φ : Nat → Place} {F : AFrame} {H : AHeap} {a : Act} {w : World}
    (h : Sim P Γ N n0 φ0 B w0 ops wl L0 L wv kb K D (R1 ++ i :: R) listed pm φ F H a w) (hl : ∀ j ∈ R1, listed.getD j false = true) : WaitsIn ops listed i := by
  intro o ho e he hb
  have hlt := (masks_at hO.mso ho).1 e he hb
  have hi : i < ops.size := (Array.getElem?_eq_some_iff.1 ho).1
  have hm0 := hO.all e.on (by omega)
  rw [h.split] at hm0
  rcases hm0 with hm0 | hm
  · exact h.done0 _ hm0
  have hpw := hO.pairs
  rw [h.split] at hpw
  rcases List.mem_append.1 hm with hm | hm
  · exact h.done _ hm
  · rcases List.mem_append.1 hm with hm | hm
    · exact hl _ hm
    · rcases List.mem_cons.1 hm with hm | hm
      · omega
      · have h1 := (List.pairwise_append.1 (List.pairwise_append.1 hpw).2.1).2.1
        obtain ⟨ox, oy, e1, _, e3⟩ := okP_spec (List.rel_of_pairwise_cons h1 hm)
        rw [ho] at e1; cases e1
        exact absurd rfl (e3.now e he hb)

theorem World.heap_alloc_lt {w : World} {x : Obj} {c : Nat} (h : c < w.heap.size) : (w.alloc x).heap[c]? = w.heap[c]? := Below.heap_alloc w x c h

/-- its turn comes, and it runs now -/
theorem Sim.run (hO : OrderOk ops ms wl L0 L) (hΓ : SoundE P Γ) {D R : List Nat} {i : Nat} {listed : Array Bool} {pm : Nat → Option Nat} {φ : Nat → Place} {F : AFrame} {H : AHeap} {a : Act} {w : World} {Q : Exit → Act → World → Prop}
    (h : Sim P Γ N n0 φ0 B w0 ops wl L0 L wv kb K D (i :: R) listed pm φ F H a w) (hl : listed.getD i false = false) :
    wpOp P ops Q i (fun a' w' => (∃ pm' φ' F' H', Sim P Γ N n0 φ0 B w0 ops wl L0 L wv kb K (D ++ [i]) R (listed.setIfInBounds i true) pm' φ' F' H' a' w' ∧ pm' = pm) ∧ (∃ u, ∀ o, ops[i]? = some o → a' = a.put o.dst u) ∧
      (∀ o, ops[i]? = some o → kindAt wl i o ≠ .make → (kindAt wl i o = .anch → still o = true) → w' = w) ∧ ∀ j q, pm j = some q → w'.heap[q]? = w.heap[q]?) a w := by
  have hwait := Sim.waits hO (R1 := []) h (by simp)
  have hiL : i ∈ L := by rw [h.split]; simp
  have hilt := hO.lt i hiL
  obtain ⟨o, ho⟩ : ∃ o, ops[i]? = some o := ⟨_, Array.getElem?_eq_getElem hilt⟩
  have hnx := h.nx
  simp only [List.filterMap_cons, ho, Option.map_some, aopsW] at hnx
  obtain ⟨⟨hwt, hkp, hlc⟩, hd, hnx⟩ := hnx
  have hd' : dstOk N o.dst := hd
  have hpw := hO.pairs
  rw [h.split] at hpw
  have hcons := (List.pairwise_append.1 hpw).2.1
  have hpair : ∀ j ∈ R, ∃ oj, ops[j]? = some oj ∧ OkP ops ms wl i j o oj := fun j hj => by
    obtain ⟨ox, oy, e1, e2, e3⟩ := okP_spec (List.rel_of_pairwise_cons hcons hj)
    rw [ho] at e1; cases e1
    exact ⟨oy, e2, e3⟩
  have hnot : i ∉ R := fun hi => by obtain ⟨_, _, hz⟩ := hpair i hi; exact hz.ne rfl
  have hpmi : pm i = none := by
    cases hp : pm i with
    | none => rfl
    | some p => have := (h.pmR i p hp).2; rw [hl] at this; cases this
  have nowait : ∀ j ∈ R, ∀ oj, ops[j]? = some oj → listed.getD j false = true → wt ms j i = false := fun j hj oj hoj hlj => by
    cases hw : wt ms j i with
    | false => rfl
    | true => have := wt_listed hO.mso h.closed j oj hoj (fun o' ho' e he hb => h.closed j o' ho' hlj e he hb) hw; rw [hl] at this; cases this
  have base : ∀ φ' v u H' w', HRep φ' ⟨B.B, fun c => B.T c ∨ ∃ j, pm j = some c⟩ H' w' → RepV φ' H'.n v u → Kept ⟨B.B, fun c => B.T c ∨ ∃ j, pm j = some c⟩ w w' → H.n ≤ H'.n → (∀ b, b < H.n → φ' b = φ b) → ((kindAt wl i o = .anch → still o = true) → Below w.heap.size w w') →
      aopsW P Γ N (wsOf ops wl wv) kb (ltOf ops wl) (R.filterMap fun i => (ops[i]?).map (prepOp ops)) (F.put o.dst v) H' K → ∃ pm' φ' F' H', Sim P Γ N n0 φ0 B w0 ops wl L0 L wv kb K (D ++ [i]) R (listed.setIfInBounds i true) pm' φ' F' H' (a.put o.dst u) w' ∧ pm' = pm := by
    intro φ' v u H' w' hH hv hkpt hn ha hkr hx
    refine ⟨pm, φ', F.put o.dst v, H', ⟨by rw [h.split]; simp, fun j hj => getD_set_true (h.done0 j hj), fun j hj => ?_, hH, (h.fr.mono ha hn).put h.size hd' hv, put_size.trans h.size, put_defers.trans h.nod, h.below.trans ⟨hkpt.below, fun c hc => hkpt.keep c (.inl hc)⟩, Nat.le_trans h.n hn,
      fun b hb => (ha b (Nat.lt_of_lt_of_le hb h.n)).trans (h.agree b hb), h.pmB, h.pmI, fun j p hj => ?_, fun j hj hlj => ?_, fun j hj oj hoj hkj d hdj => ?_, closed_set h.closed hwait, by simp [h.lsz], h.plain, h.kbn, hx⟩, rfl⟩
    · rcases List.mem_append.1 hj with hj | hj
      · exact getD_set_true (h.done j hj)
      · rw [List.mem_singleton.1 hj]; exact getD_set_true' (by rw [h.lsz]; exact hilt)
    · obtain ⟨h3, h4⟩ := h.pmR j p hj
      refine ⟨(List.mem_cons.1 h3).resolve_left fun e => ?_, getD_set_true h4⟩
      rw [e, hl] at h4; cases h4
    · have hne : j ≠ i := fun e => hnot (e ▸ hj)
      have hlj' : listed.getD j false = true := (getD_set_or hlj).resolve_left hne
      obtain ⟨oj, h1, h2, h3⟩ := h.pend j (by simp [hj]) hlj'
      obtain ⟨oj', e1, e2⟩ := hpair j hj
      rw [h1] at e1; cases e1
      have hnw := nowait j hj oj h1 hlj'
      refine ⟨oj, h1, h2, h3.put (fun cs b => Region.noSelect_spec hO.sel j oj cs b h1) (fun t ht => e2.hz2 h2 hnw t ht) (fun t ht => e2.dst (.inr h2) t ht) (fun hk => hkr fun ha => ?_) (fun c hc => hkpt.keep c (.inr ⟨j, hc⟩)) (fun _ z hz => lat_put (ops := ops) (fun t ht => e2.hz2 h2 hnw t ht) hz) fun hkm z hz => ?_⟩
      rotate_left
      · refine latM_put (ops := ops) (fun cs b => Region.noSelect_spec hO.sel j oj cs b h1) (fun t ht => e2.hz2 h2 hnw t ht) hz (fun q hq zm hm hmR => hq zm hm (List.mem_cons_of_mem _ hmR)) fun q hq hqs => ?_
        obtain ⟨zz, m, hm⟩ := kindAt_lateM hkm
        have hlk := hO.lmk
        rw [h.split] at hlk
        rcases (lmOk_at hlk).2 j hj _ hm with g | g | g | ⟨ox, g1, g2⟩
        · exact hkpt.keep q (.inr ⟨m, hq _ hm (List.mem_cons_of_mem _ g)⟩)
        · have := (lm_listed hO h.closed hm fun o' ho' e he hb => h.closed j o' ho' hlj' e he hb).2
          rw [show m = i from g, hl] at this; cases this
        · rw [hnw] at g; cases g
        · rw [ho] at g1; cases g1
          refine (hkr fun ha => ?_).block q hqs
          cases hst : still o with
          | true => rfl
          | false => rw [actB, ha, hst] at g2; cases g2
      cases hst : still o with
      | true => rfl
      | false => have := e2.read hk (.inl ⟨ha, hst⟩); rw [hnw] at this; cases this
    · rw [put_get]
      · exact h.fresh j (by simp [hj]) oj hoj hkj d hdj
      · intro s hs e
        obtain ⟨oj', e1, e2⟩ := hpair j hj
        rw [hoj] at e1; cases e1
        exact e2.dst (.inr hkj) s hs (by rw [hdj, e])
  have put : ∀ u, ∃ u', ∀ o' : Oper, some o = some o' → a.put o.dst u = a.put o'.dst u' := fun u => ⟨u, fun o' ho' => by cases ho'; rfl⟩
  have hso : ∀ {u : Value}, (execOp a.eval o).run P w = .ok (.value u) w → (∃ pm' φ' F' H', Sim P Γ N n0 φ0 B w0 ops wl L0 L wv kb K (D ++ [i]) R (listed.setIfInBounds i true) pm' φ' F' H' (a.put o.dst u) w ∧ pm' = pm) → Region.wanted o (yielded ops a.tmps) = true →
      wpOp P ops Q i (fun a' w' => (∃ pm' φ' F' H', Sim P Γ N n0 φ0 B w0 ops wl L0 L wv kb K (D ++ [i]) R (listed.setIfInBounds i true) pm' φ' F' H' a' w' ∧ pm' = pm) ∧ (∃ u, ∀ o, ops[i]? = some o → a' = a.put o.dst u) ∧
      (∀ o, ops[i]? = some o → kindAt wl i o ≠ .make → (kindAt wl i o = .anch → still o = true) → w' = w) ∧ ∀ j q, pm j = some q → w'.heap[q]? = w.heap[q]?) a w := fun hr hs hw => by
    unfold wpOp
    simp only [ho, hw, if_true]
    left
    unfold Oper.wp
    rw [hr, Oper.upon_value]
    exact ⟨hs, put _, fun _ _ _ _ => rfl, fun _ _ _ => rfl⟩
  rcases guard_of h.fr hnx with ⟨hw, hx⟩ | ⟨hw, hx⟩
  · have hpure : apure P H F o.op (fun v => aopsW P Γ N (wsOf ops wl wv) kb (ltOf ops wl) (R.filterMap fun i => (ops[i]?).map (prepOp ops)) (F.put o.dst v) H K) → wpOp P ops Q i (fun a' w' => (∃ pm' φ' F' H', Sim P Γ N n0 φ0 B w0 ops wl L0 L wv kb K (D ++ [i]) R (listed.setIfInBounds i true) pm' φ' F' H' a' w' ∧ pm' = pm) ∧ (∃ u, ∀ o, ops[i]? = some o → a' = a.put o.dst u) ∧
      (∀ o, ops[i]? = some o → kindAt wl i o ≠ .make → (kindAt wl i o = .anch → still o = true) → w' = w) ∧ ∀ j q, pm j = some q → w'.heap[q]? = w.heap[q]?) a w := fun hx => by
      obtain ⟨v, u, h1, h2, h3⟩ := apure_sound (o := o) rfl h.heap h.fr hx
      exact hso (h3 w (Below.refl _ _)) (base φ v u H w h.heap h2 (Kept.refl _ _) (Nat.le_refl _) (fun _ _ => rfl) (fun _ => Below.refl _ _) h1) hw
    cases hk : kindAt wl i o with
    | make =>
      obtain ⟨cs', k, cap, mk, v, g1, g2, g3, g4, g5, g6, g7, g8, g9⟩ := make_of (o := o) (kind_make (kindAt_of hk ⟨by decide, by decide⟩ (by decide))) rfl h.fr (make_step (kind_make (kindAt_of hk ⟨by decide, by decide⟩ (by decide))) hx)
      unfold wpOp
      simp only [ho, hw, if_true]
      left
      unfold Oper.wp
      rw [g1 w, Oper.upon_value]
      have hb : Below w.heap.size w (w.alloc (.cells cs' k.ty)) := (Below.refl _ _).alloc (Nat.le_refl _) _
      refine ⟨base _ v _ (H.push k) _ (h.heap.allocRow g3 g4 g5 g6 g7) (g8 _) (.of_below h.heap.size h.heap.tlt hb) (Nat.le_succ _) updP_old (fun _ => hb) g2, put _, fun o' ho' hk' _ => ?_, fun j q hj => hb.block q (h.heap.tlt q (.inr ⟨j, hj⟩))⟩
      cases ho'
      exact absurd hk hk'
    | anch =>
      rcases step_eff hΓ hx with hx | hx
      · exact hpure hx
      · unfold wpOp
        simp only [ho, hw, if_true]
        left
        refine aeff_sound (o := o) rfl h.heap h.fr hx _ _ fun v u φ' H' w' h1 h2 h3 h4 h5 h6 => ?_
        refine ⟨base φ' v u H' w' h3 h2 h4 h5 h6 (fun hn => (still_eff (hn hk) hx).elim) h1, put _, fun o' ho' _ hst => ?_, fun j q hj => h4.keep q (.inr ⟨j, hj⟩)⟩
        cases ho'
        exact (still_eff (hst hk) hx).elim
    | calm => exact hpure (calm_step (kind_calm (kindAt_of hk ⟨by decide, by decide⟩ (by decide))) hx)
    | watch =>
      obtain ⟨o', t, x, ho', hop, _⟩ := hO.wlo i (kindAt_watch hk)
      rw [ho] at ho'; cases ho'
      have hx' := hx
      simp only [prepOp, hop] at hx'
      have := read_step hx'
      rw [← hop] at this
      exact hpure this
    | lateM =>
      obtain ⟨z, m, hm⟩ := kindAt_lateM hk
      obtain ⟨oi, _, _, ti, _, _, x, _, _, _, _, e1, _, _, hop, _⟩ := hO.mlo i z m hm
      rw [ho] at e1; cases e1
      have hx' := hx
      simp only [prepOp, hop] at hx'
      have := read_step hx'
      rw [← hop] at this
      exact hpure this
    | late =>
      obtain ⟨o', t, x, d, ho', hop, _⟩ := hO.llo i (kindAt_late hk)
      rw [ho] at ho'; cases ho'
      have hx' := hx
      simp only [prepOp, hop] at hx'
      have := read_step hx'
      rw [← hop] at this
      exact hpure this
    | read =>
      obtain ⟨t, x, hop⟩ := kind_read (kindAt_of hk ⟨by decide, by decide⟩ (by decide))
      have hx' := hx
      simp only [prepOp, hop] at hx'
      have := read_step hx'
      rw [← hop] at this
      exact hpure this
  · unfold wpOp
    simp only [ho, hw]
    exact ⟨base φ (.tup []) undef H w h.heap ⟨[], rfl, trivial⟩ (Kept.refl _ _) (Nat.le_refl _) (fun _ _ => rfl) (fun _ => Below.refl _ _) hx, put _, by intros; trivial, by intros; first | trivial | rfl⟩

/-- an operation that may run ends somewhere -/
theorem wpOp_ex {i : Nat} {G : Act → World → Prop} {a : Act} {w : World} (h : wpOp P ops (fun _ _ _ => False) i G a w) : ∃ a' w', G a' w' := by
  unfold wpOp at h
  split at h
  · exact ⟨_, _, h⟩
  · rename_i o ho
    split at h
    · rcases h with h | ⟨_, _, _, h⟩
      · unfold Oper.wp at h
        generalize (execOp a.eval o).run P w = r at h
        cases r with
        | ok n w' =>
          cases n <;> simp only [Oper.upon] at h
          case value u => exact ⟨_, _, h⟩
          case skip => exact ⟨_, _, h⟩
          case defer d => exact ⟨_, _, h⟩
          case enter f args =>
            obtain ⟨e, w'', fr, he, _⟩ := h []
            cases e with
            | returned u => exact ⟨_, _, he⟩
            | panicked c => exact he.elim
            | outgrown => obtain ⟨_, _, h0⟩ := he; exact h0.elim
          case row r args =>
            obtain ⟨u, w'', he, _⟩ := h (Frame.enter P 0 #[] .normal) []
            exact ⟨_, _, he⟩
        | halt x w' => cases x <;> simp only [Oper.upon] at h
      · exact h.elim
    · exact ⟨_, _, h⟩

/-- on the way to a float's turn: what it looks at stays -/
theorem Sim.reach (hO : OrderOk ops ms wl L0 L) (hΓ : SoundE P Γ) {i : Nat} {o : Oper} (ho : ops[i]? = some o) (hk : kindAt wl i o ≠ .anch) {R : List Nat} : ∀ (R1 : List Nat) {D : List Nat} {listed : Array Bool} {pm : Nat → Option Nat} {φ : Nat → Place} {F : AFrame} {H : AHeap} {a : Act} {w : World},
    Sim P Γ N n0 φ0 B w0 ops wl L0 L wv kb K D (R1 ++ i :: R) listed pm φ F H a w → listed.getD i false = false → WaitsIn ops listed i →
    ∃ listed' pm' φ' F' H' a' w', Sim P Γ N n0 φ0 B w0 ops wl L0 L wv kb K (D ++ R1) (i :: R) listed' pm' φ' F' H' a' w' ∧ (∀ t ∈ o.looksAt ops, a'.tmps[t]? = a.tmps[t]?) ∧ (kindAt wl i o = .read → w' = w) ∧
      (∀ zm, mOf wl i = some zm → (zm.2 ∈ R1 → ∀ q, pm zm.2 = some q → w'.heap[q]? = w.heap[q]?) ∧ (zm.2 ∉ R1 → w' = w))
  | [], D, listed, pm, φ, F, H, a, w, h, _, _ => ⟨listed, pm, φ, F, H, a, w, by simpa using h, fun _ _ => rfl, fun _ => rfl, fun _ _ => ⟨fun hc => by (cases hc), fun _ => rfl⟩⟩
  | x :: R1, D, listed, pm, φ, F, H, a, w, h, hl, hw => by
    have hpw := hO.pairs
    rw [h.split] at hpw
    obtain ⟨ox, oy, e1, e2, e3⟩ := okP_spec (List.rel_of_pairwise_cons (List.pairwise_append.1 hpw).2.1 (show i ∈ R1 ++ i :: R by simp))
    rw [ho] at e2; cases e2
    have hnx : x ∉ R1 := fun hx => by
      obtain ⟨_, _, _, _, e⟩ := okP_spec (List.rel_of_pairwise_cons (List.pairwise_append.1 hpw).2.1 (show x ∈ R1 ++ i :: R by simp [hx]))
      exact e.ne rfl
    cases hx : listed.getD x false with
    | true =>
      obtain ⟨pm', φ', F', H', h', hpm⟩ := Sim.consume hO hΓ h hx
      obtain ⟨l2, pm2, φ2, F2, H2, a2, w2, g1, g2, g3, g4⟩ := Sim.reach hO hΓ ho hk R1 h' hl hw
      refine ⟨l2, pm2, φ2, F2, H2, a2, w2, by simpa using g1, g2, g3, fun zm hz => ⟨fun hm q hq => ?_, fun hm => (g4 zm hz).2 fun hc => hm (List.mem_cons_of_mem _ hc)⟩⟩
      rcases List.mem_cons.1 hm with hm | hm
      · rw [(g4 zm hz).2 (by rw [hm]; exact hnx)]
      · exact (g4 zm hz).1 hm q (by rw [hpm _ fun e => hnx (e ▸ hm)]; exact hq)
    | false =>
      have hnw : wt ms i x = false := by
        cases hwt : wt ms i x with
        | false => rfl
        | true => have := wt_listed hO.mso h.closed i o ho hw hwt; rw [hx] at this; cases this
      obtain ⟨a', w', ⟨pm', φ', F', H', h', hpm⟩, ⟨u, hu⟩, hs, hks⟩ := wpOp_ex (Sim.run (Q := fun _ _ _ => False) hO hΓ h hx)
      have hu' := hu ox e1
      obtain ⟨l2, pm2, φ2, F2, H2, a2, w2, g1, g2, g3, g4⟩ := Sim.reach hO hΓ ho hk R1 h' (by rw [getD_set_ne false e3.ne]; exact hl) (fun o' ho' e he hb => getD_set_true (hw o' ho' e he hb))
      refine ⟨l2, pm2, φ2, F2, H2, a2, w2, by simpa using g1, fun t ht => ?_, fun hr => ?_, fun zm hz => ?_⟩
      · rw [g2 t ht, hu']
        cases hd : ox.dst with
        | none => rfl
        | some d =>
          have hne : d ≠ t := fun e => e3.hz2 hk hnw d hd (e ▸ ht)
          simp only [Act.put]
          rw [Array.getElem?_setIfInBounds_ne hne]
      · rw [g3 hr]
        refine hs ox e1 (fun hm => ?_) fun ha => ?_
        · have := e3.read hr (.inr hm); rw [hnw] at this; cases this
        · cases hst : still ox with
          | true => rfl
          | false => have := e3.read hr (.inl ⟨ha, hst⟩); rw [hnw] at this; cases this
      · have hml := (lm_listed hO h.closed (show mOf wl i = some (zm.1, zm.2) from hz) hw).2
        have hmx : zm.2 ≠ x := fun e => by rw [e, hx] at hml; cases hml
        refine ⟨fun hm q hq => ?_, fun hm => ?_⟩
        · have hm' := (List.mem_cons.1 hm).resolve_left hmx
          rw [(g4 zm hz).1 hm' q (by rw [hpm]; exact hq)]
          exact hks _ q hq
        · rw [(g4 zm hz).2 fun hc => hm (List.mem_cons_of_mem _ hc)]
          have hlk := hO.lmk
          rw [h.split] at hlk
          have hlk2 : lmOk ops ms wl ((D ++ x :: R1) ++ i :: R) = true := by simpa using hlk
          rcases (lmOk_at hlk).2 i (by simp) zm hz with g | g | g | ⟨ox', q1, q2⟩
          · exfalso
            rcases List.mem_append.1 g with g | g
            · exact hm (List.mem_cons_of_mem _ g)
            · rcases List.mem_cons.1 g with g | g
              · rw [g, hl] at hml; cases hml
              · exact (lmOk_at hlk2).1 zm hz g
          · exact absurd g hmx
          · rw [hnw] at g; cases g
          · rw [e1] at q1; cases q1
            unfold actB at q2
            simp only [Bool.or_eq_false_iff, Bool.and_eq_false_iff, beq_eq_false_iff_ne, Bool.not_eq_false'] at q2
            exact hs ox e1 q2.2 fun ha => q2.1.resolve_left fun hn => hn ha

theorem looks_eval {o : Oper} {a a' : Act} (hs : ∀ cs b, o.op ≠ .select cs b) (h : ∀ t ∈ o.looksAt ops, a'.tmps[t]? = a.tmps[t]?) : execOp a'.eval o = execOp a.eval o :=
  execOp_congr o hs fun x hx => by
    cases x with
    | tmp t =>
      have := h t (List.mem_append_left _ (List.mem_filterMap.2 ⟨.tmp t, by simpa using hx, rfl⟩))
      simp only [Act.eval, Array.getD_eq_getD_getElem?, this]
    | _ => rfl
theorem looks_wanted {o : Oper} {a a' : Act} (h : ∀ t ∈ o.looksAt ops, a'.tmps[t]? = a.tmps[t]?) : Region.wanted o (yielded ops a'.tmps) = Region.wanted o (yielded ops a.tmps) := by
  unfold Region.wanted
  cases hg : o.guard with
  | none => rfl
  | some gw =>
    obtain ⟨g, want⟩ := gw
    have hy : yielded ops a'.tmps g = yielded ops a.tmps g := by
      unfold yielded
      cases ht : (ops[g]?).bind (·.dst) with
      | none => rfl
      | some t =>
        have := h t (by simp [Oper.looksAt, hg, ht])
        simp [this]
    simp only [hy]

theorem Sim.watchNow (hO : OrderOk ops ms wl L0 L) {D R : List Nat} {i : Nat} {listed : Array Bool} {pm : Nat → Option Nat} {φ : Nat → Place} {F : AFrame} {H : AHeap} {a : Act} {w : World}
    (h : Sim P Γ N n0 φ0 B w0 ops wl L0 L wv kb K D R listed pm φ F H a w) (hi : i ∈ R) : watchB P H F (wsOf ops wl wv) ∧ keepB H kb := by
  cases R with
  | nil => cases hi
  | cons x r =>
    have hx : x ∈ L := by rw [h.split]; simp
    have ho : ops[x]? = some _ := Array.getElem?_eq_getElem (hO.lt x hx)
    have hnx := h.nx
    simp only [List.filterMap_cons, ho, Option.map_some, aopsW] at hnx
    exact ⟨hnx.1.1, hnx.1.2.1⟩

/-- it runs ahead of its turn -/
theorem Sim.early (hO : OrderOk ops ms wl L0 L) (hΓ : SoundE P Γ) {D R1 R : List Nat} {i : Nat} {o : Oper} {listed : Array Bool} {pm : Nat → Option Nat} {φ : Nat → Place} {F : AFrame} {H : AHeap} {a : Act} {w : World} {Q : Exit → Act → World → Prop}
    (h : Sim P Γ N n0 φ0 B w0 ops wl L0 L wv kb K D (R1 ++ i :: R) listed pm φ F H a w) (ho : ops[i]? = some o) (hk : kindAt wl i o ≠ .anch) (hl : listed.getD i false = false) (hwait : WaitsIn ops listed i) :
    wpOp P ops Q i (fun a' w' => ∃ pm' φ' F' H', Sim P Γ N n0 φ0 B w0 ops wl L0 L wv kb K D (R1 ++ i :: R) (listed.setIfInBounds i true) pm' φ' F' H' a' w') a w := by
  have hsel := fun j oj cs b (hj : ops[j]? = some oj) => Region.noSelect_spec hO.sel j oj cs b hj
  have hiR : i ∈ R1 ++ i :: R := by simp
  have hiL : i ∈ L := by rw [h.split]; exact List.mem_append_right _ hiR
  have hilt := hO.lt i hiL
  obtain ⟨l2, pm2, φ2, F2, H2, a2, w2, h2, hlk, hrw, hrm⟩ := Sim.reach hO hΓ ho hk R1 h hl hwait
  have hnx := h2.nx
  simp only [List.filterMap_cons, ho, Option.map_some, aopsW] at hnx
  obtain ⟨⟨hwt, hkp, hlc⟩, hd, hnx⟩ := hnx
  have hd' : dstOk N o.dst := hd
  have hex : execOp a2.eval o = execOp a.eval o := looks_eval (fun cs b => hsel i o cs b ho) hlk
  have hwa : Region.wanted o (yielded ops a2.tmps) = Region.wanted o (yielded ops a.tmps) := looks_wanted hlk
  have hpw := hO.pairs
  rw [h.split] at hpw
  have hpw2 := (List.pairwise_append.1 hpw).2.1
  have hpmi : pm i = none := by
    cases hp : pm i with
    | none => rfl
    | some p => have := (h.pmR i p hp).2; rw [hl] at this; cases this
  have nowait : ∀ j oj, ops[j]? = some oj → listed.getD j false = true → wt ms j i = false := fun j oj hoj hlj => by
    cases hw : wt ms j i with
    | false => rfl
    | true => have := wt_listed hO.mso h.closed j oj hoj (fun o' ho' e he hb => h.closed j o' ho' hlj e he hb) hw; rw [hl] at this; cases this
  have hmem : ∀ j ∈ R1 ++ i :: R, j ≠ i → ∀ oj, ops[j]? = some oj → kindAt wl j oj ≠ .anch → listed.getD j false = true → (∀ t, o.dst = some t → t ∉ oj.looksAt ops) ∧ (∀ t, o.dst = some t → oj.dst ≠ some t) := fun j hj hne oj hoj hkj hlj => by
    have hnw := nowait j oj hoj hlj
    rcases List.mem_append.1 hj with hj | hj
    · obtain ⟨ox, oy, e1, e2, e3⟩ := okP_spec ((List.pairwise_append.1 hpw2).2.2 j hj i (by simp))
      rw [hoj] at e1; cases e1
      rw [ho] at e2; cases e2
      exact ⟨fun t ht => e3.hz1 hkj hk t ht, fun t ht he => e3.dst (.inl hkj) t he ht⟩
    · have hj' := (List.mem_cons.1 hj).resolve_left hne
      obtain ⟨ox, oy, e1, e2, e3⟩ := okP_spec (List.rel_of_pairwise_cons (List.pairwise_append.1 hpw2).2.1 hj')
      rw [ho] at e1; cases e1
      rw [hoj] at e2; cases e2
      exact ⟨fun t ht => e3.hz2 hkj hnw t ht, fun t ht => e3.dst (.inl hk) t ht⟩
  have slot : ∀ u, ∀ t, o.dst = some t → (a.put o.dst u).tmps[t]? = some u := fun u t ht => by
    rw [ht] at hd' ⊢
    have hlt : t < N := hd'
    exact Array.getElem?_setIfInBounds_self_of_lt (by rw [h.size]; exact hlt)
  have keep : ∀ u, execOp (a.put o.dst u).eval o = execOp a.eval o ∧ Region.wanted o (yielded ops (a.put o.dst u).tmps) = Region.wanted o (yielded ops a.tmps) := fun u =>
    ⟨execOp_put (ops := ops) o (fun cs b => hsel i o cs b ho) a o.dst u fun d hd => hO.own i o hiL ho hk d hd, wanted_put (ops := ops) o a o.dst u fun d hd => hO.own i o hiL ho hk d hd⟩
  have base : ∀ (pm' : Nat → Option Nat) u w', (∀ j, j ≠ i → pm' j = pm j) → HRep φ ⟨B.B, fun c => B.T c ∨ ∃ j, pm' j = some c⟩ H w' → Below w.heap.size w w' → (∀ p, pm' i = some p → B.B ≤ p ∧ ¬ B.T p ∧ ∀ j, pm j ≠ some p) → Pend P ops (a.put o.dst u) w' (pm' i) (kindAt wl i o) (wat n0 φ0 (wv i)) (lat P n0 φ0 kb) (latM P (pqOf wl pm' (R1 ++ i :: R) i)) o →
      ∃ pm' φ' F' H', Sim P Γ N n0 φ0 B w0 ops wl L0 L wv kb K D (R1 ++ i :: R) (listed.setIfInBounds i true) pm' φ' F' H' (a.put o.dst u) w' := by
    intro pm' u w' hpm hH hb hpi hpd
    have hcase : ∀ j p, pm' j = some p → (j = i ∧ pm' i = some p) ∨ (j ≠ i ∧ pm j = some p) := fun j p hj => by
      by_cases e : j = i
      · exact .inl ⟨e, e ▸ hj⟩
      · exact .inr ⟨e, by rw [← hpm j e]; exact hj⟩
    refine ⟨pm', φ, F, H, ⟨h.split, fun j hj => getD_set_true (h.done0 j hj), fun j hj => getD_set_true (h.done j hj), hH, h.fr.over fun t ht => h.fresh i hiR o ho hk t ht, put_size.trans h.size, put_defers.trans h.nod, h.below.trans (.of_below h.heap.size (fun c hc => h.heap.tlt c (.inl hc)) hb), h.n, h.agree, fun j p hj => ?_, fun j j' p g1 g2 => ?_,
      fun j p hj => ?_, fun j hj hlj => ?_, h.fresh, closed_set h.closed hwait, by simp [h.lsz], h.plain, h.kbn, h.nx⟩⟩
    · rcases hcase j p hj with ⟨_, g⟩ | ⟨_, g⟩
      · exact ⟨(hpi p g).1, (hpi p g).2.1⟩
      · exact h.pmB j p g
    · rcases hcase j p g1 with ⟨e, g⟩ | ⟨e, g⟩ <;> rcases hcase j' p g2 with ⟨e', g'⟩ | ⟨e', g'⟩
      · rw [e, e']
      · exact absurd g' ((hpi p g).2.2 j')
      · exact absurd g ((hpi p g').2.2 j)
      · exact h.pmI j j' p g g'
    · rcases hcase j p hj with ⟨e, g⟩ | ⟨_, g⟩
      · rw [e]; exact ⟨hiR, getD_set_true' (by rw [h.lsz]; exact hilt)⟩
      · obtain ⟨g1, g2⟩ := h.pmR j p g; exact ⟨g1, getD_set_true g2⟩
    · by_cases e : j = i
      · subst e; exact ⟨o, ho, hk, hpd⟩
      · have hlj' : listed.getD j false = true := (getD_set_or hlj).resolve_left e
        obtain ⟨oj, g1, g2, g3⟩ := h.pend j hj hlj'
        obtain ⟨m1, m2⟩ := hmem j hj e oj g1 g2 hlj'
        rw [hpm j e]
        refine ⟨oj, g1, g2, g3.put (fun cs b => hsel j oj cs b g1) m1 m2 (fun _ => hb) (fun c hc => hb.block c (h.heap.tlt c (.inr ⟨j, hc⟩))) (fun _ z hz => lat_put (ops := ops) m1 hz) fun hkm z hz => ?_⟩
        refine latM_put (ops := ops) (fun cs b => hsel j oj cs b g1) m1 hz (fun q hq zm hm hmR => ?_) fun q _ hqs => hb.block q hqs
        have hml := (lm_listed hO h.closed (show mOf wl j = some (zm.1, zm.2) from hm) fun o' ho' e he hb => h.closed j o' ho' hlj' e he hb).2
        have hmi : zm.2 ≠ i := fun e => by rw [e, hl] at hml; cases hml
        rw [hpm _ hmi]
        exact hq zm hm hmR
  have same : ∀ u, Pend P ops (a.put o.dst u) w none (kindAt wl i o) (wat n0 φ0 (wv i)) (lat P n0 φ0 kb) (latM P (pqOf wl pm (R1 ++ i :: R) i)) o → ∃ pm' φ' F' H', Sim P Γ N n0 φ0 B w0 ops wl L0 L wv kb K D (R1 ++ i :: R) (listed.setIfInBounds i true) pm' φ' F' H' (a.put o.dst u) w := fun u hp =>
    base pm u w (fun _ _ => rfl) h.heap (Below.refl _ _) (fun p hp => by rw [hpmi] at hp; cases hp) (by rw [hpmi]; exact hp)
  rcases guard_of h2.fr hnx with ⟨hw, hx⟩ | ⟨hw, hx⟩
  · rw [hwa] at hw
    unfold wpOp
    simp only [ho, hw, if_true]
    left
    unfold Oper.wp
    cases hkd : kindAt wl i o with
    | anch => exact absurd hkd hk
    | watch =>
      have hiw := kindAt_watch hkd
      obtain ⟨o', t, x, ho', hop, _⟩ := hO.wlo i hiw
      rw [ho] at ho'; cases ho'
      have hwv := watchB_mem (Sim.watchNow hO h hiR).1 _ (ws_mem hiw ho)
      obtain ⟨v, u, rfl, h2', h3⟩ := apure_sound (o := o) rfl h.heap h.fr hwv
      rw [h3 w (Below.refl _ _), Oper.upon_value]
      refine same u ⟨u, slot u, .inl ⟨by rw [(keep u).2]; exact hw, ?_⟩⟩
      simp only [hkd]
      exact ⟨trivial, fun φ' m hm ha => heldV_rep (fun b hb => (ha b hb).trans (h.agree b hb).symm) hm (h.plain i hiw) h2'⟩
    | late =>
      obtain ⟨o', t, x, d, ho', hop, _, hdd⟩ := hO.llo i (kindAt_late hkd)
      rw [ho] at ho'; cases ho'
      have hlt := hlc (lateD_of (kindAt_late hkd) ho hdd)
      simp only [prepOp, hop, lateOp] at hlt
      obtain ⟨hlo, hpl⟩ := hlt
      obtain ⟨v0, hv0, hlo⟩ := onv_iff.1 hlo
      have key : ∃ b ii jj, v0 = .c (.ptr b ii jj) ∧ ∃ p ∈ kb, p.1 = b := by
        unfold lateV at hlo
        split at hlo
        · rename_i b ii jj
          obtain ⟨p, hp, he⟩ := List.any_eq_true.1 hlo
          exact ⟨b, ii, jj, rfl, p, hp, by simpa using he⟩
        · exact hlo.elim
      obtain ⟨b, ii, jj, rfl, p, hp, hpb⟩ := key
      obtain ⟨v, hv, hmv⟩ := load_of hpl hv0
      have hb0 : b < n0 := by rw [← hpb]; exact h.kbn p hp
      have hHb : ∀ H', keepB H' kb → H'.b b = H2.b b := fun H' hk' => by
        have g1 := keepB_mem hk' p hp
        have g2 := keepB_mem hkp p hp
        rw [hpb] at g1 g2
        rw [g1, g2]
      obtain ⟨y, hy, hry⟩ := h2.fr x _ hv0
      have hxl : x ∈ o.looksAt ops := List.mem_append_left _ (List.mem_filterMap.2 ⟨.tmp x, by rw [hop]; simp [Op.operands], rfl⟩)
      have hya : a.tmps[x]? = some y := (hlk x hxl).symm.trans hy
      have hr0 : ∀ φ' m, n0 ≤ m → (∀ b, b < n0 → φ' b = φ0 b) → RepV φ' m (.c (.ptr b ii jj)) y := fun φ' m hm ha => heldV_rep (n := n0) (φ := φ2) (fun c hc => (ha c hc).trans (h2.agree c hc).symm) hm (.inr hb0) hry
      have hap : ∀ H', keepB H' kb → apure P H' [(x, .c (.ptr b ii jj))] o.op (fun v' => v' = v) := fun H' hk' => by rw [hop]; exact hmv H' _ (hHb H' hk') (by simp [AFrame.get])
      obtain ⟨v', u, rfl, h2', h3⟩ := apure_sound (o := o) rfl h.heap (lat_frame hya (hr0 _ _ h.n h.agree)) (hap _ (Sim.watchNow hO h hiR).2)
      rw [h3 w (Below.refl _ _), Oper.upon_value]
      refine same u ⟨u, slot u, .inl ⟨by rw [(keep u).2]; exact hw, ?_⟩⟩
      simp only [hkd]
      exact ⟨trivial, lat_put (ops := ops) (fun d hd => hO.own i o hiL ho hk d hd) ⟨t, x, _, v', y, hop, hv, hya, hr0, hap, fun φ' m => plainV_mono hv h2'⟩⟩
    | lateM =>
      obtain ⟨z, m, hm⟩ := kindAt_lateM hkd
      obtain ⟨oi, oz, om, ti, tz, tm, x, y, ix, nn, ps, e1, e2, e3, hop, hzop, hmop, hzd, hmd, _, hzg, hmg, w1, w2', hkz, hkm, hzL, hmL⟩ := hO.mlo i z m hm
      rw [ho] at e1; cases e1
      have hx' := hx
      simp only [prepOp, hop] at hx'
      obtain ⟨v, u, p, _, _, hpx, hdep⟩ := load_at (o := o) hop h2.heap h2.fr (read_step hx')
      obtain ⟨hzl, hml⟩ := lm_listed hO h.closed hm hwait
      have hxl : x ∈ o.looksAt ops := List.mem_append_left _ (List.mem_filterMap.2 ⟨.tmp x, by rw [hop]; simp [Op.operands], rfl⟩)
      have hpx1 : a.eval (.tmp x) = .pointer (some p) := by
        have := hlk x hxl
        simp only [Act.eval, Array.getD_eq_getD_getElem?] at hpx ⊢
        rw [← this]; exact hpx
      have hmi : m ≠ i := fun e => by rw [e, hl] at hml; cases hml
      have hlk2 := hO.lmk
      rw [h.split] at hlk2
      have hlk3 : lmOk ops ms wl ((D ++ R1) ++ i :: R) = true := by simpa using hlk2
      have key : w2.heap[p.block]? = w.heap[p.block]? ∧ pqOf wl pm (R1 ++ i :: R) i p.block := by
        by_cases hmR : m ∈ R1
        · obtain ⟨om', e3', _, pd⟩ := h.pend m (by simp [hmR]) hml
          rw [e3] at e3'; cases e3'
          obtain ⟨um, hum, hcase⟩ := pd.ex
          have hwm : Region.wanted om (yielded ops a.tmps) = true := by unfold Region.wanted; rw [hmg]
          rcases hcase with ⟨_, hcase⟩ | ⟨hc, _⟩
          rotate_left
          · rw [hwm] at hc; cases hc
          rw [hkm] at hcase
          obtain ⟨wm, cs, ty, hpm, _, _, hsl⟩ := hcase
          have hsl := hsl _ _ _ hmop
          have hzR : z ∈ R1 ++ i :: R := by
            rw [h.split] at hzL
            rcases List.mem_append.1 hzL with hc | hc
            · exfalso
              obtain ⟨ox, oy, q1, q2, q3⟩ := okP_spec ((List.pairwise_append.1 hpw).2.2 z hc m (by simp [hmR]))
              rw [e2] at q1; cases q1
              obtain ⟨e, q4, q5, q6⟩ := waitsB_ex w2'
              exact q3.now e q4 q5 q6
            · exact hc
          obtain ⟨oz', e2', _, pz⟩ := h.pend z hzR hzl
          rw [e2] at e2'; cases e2'
          obtain ⟨uz, huz, hcz⟩ := pz.ex
          have hwz : Region.wanted oz (yielded ops a.tmps) = true := by unfold Region.wanted; rw [hzg]
          rcases hcz with ⟨_, hcz⟩ | ⟨hc, _⟩
          rotate_left
          · rw [hwz] at hc; cases hc
          rw [hkz] at hcz
          obtain ⟨_, wz, hrz⟩ := hcz
          have hy1 : a.eval (.tmp y) = .slice (some ⟨wm.heap.size, 0, none⟩) nn nn := by
            simp only [Act.eval, Array.getD_eq_getD_getElem?, hum y hmd, Option.getD_some]
            exact hsl
          have hx1 : a.eval (.tmp x) = uz := by
            simp only [Act.eval, Array.getD_eq_getD_getElem?, huz x hzd, Option.getD_some]
          have hpb : p.block = wm.heap.size := by
            simp only [execOp, hzop, hy1, Sem.run_bind] at hrz
            cases hr : (Instr.indexAt tz (.slice (some ⟨wm.heap.size, 0, none⟩) nn nn) (a.eval ix)).run P wz with
            | ok u' w' =>
              rw [hr] at hrz
              simp only [Result.andThen_ok, Sem.run_pure, Result.ok.injEq, Next.value.injEq] at hrz
              obtain ⟨p', hp1, hp2⟩ := idx_dep hr
              rw [hrz.1, ← hx1, hpx1] at hp1
              cases hp1
              exact hp2
            | halt _ _ => rw [hr] at hrz; cases hrz
          rw [hpb]
          exact ⟨((hrm _ hm).1 hmR _ hpm), fun zm hz _ => by rw [hm] at hz; cases hz; exact hpm⟩
        · refine ⟨by rw [(hrm _ hm).2 hmR], fun zm hz hc => ?_⟩
          rw [hm] at hz; cases hz
          exfalso
          rcases List.mem_append.1 hc with hc | hc
          · exact hmR hc
          · rcases List.mem_cons.1 hc with hc | hc
            · exact hmi hc
            · exact (lmOk_at hlk3).1 _ hm hc
      have hlat : latM P (pqOf wl pm (R1 ++ i :: R) i) w a o u := by
        rw [hex] at hdep
        rcases hdep with hdep | ⟨c, q1, q2⟩
        · exact .inl hdep
        · exact .inr ⟨p.block, c, key.2, by rw [← key.1]; exact q1, q2⟩
      rw [hlat.run, Oper.upon_value]
      refine same u ⟨u, slot u, .inl ⟨by rw [(keep u).2]; exact hw, ?_⟩⟩
      simp only [hkd]
      refine ⟨trivial, ?_⟩
      unfold latM
      rw [(keep u).1]
      exact hlat
    | calm =>
      obtain ⟨v, u, h1, h2', h3⟩ := apure_calm (o := o) (kind_calm (kindAt_of hkd ⟨by decide, by decide⟩ (by decide))) rfl h2.heap h2.fr (calm_step (kind_calm (kindAt_of hkd ⟨by decide, by decide⟩ (by decide))) hx)
      have hr := h3 w
      rw [hex] at hr
      rw [hr, Oper.upon_value]
      refine same u ⟨u, slot u, .inl ⟨by rw [(keep u).2]; exact hw, ?_⟩⟩
      simp only [hkd]
      exact ⟨trivial, w, by rw [(keep u).1]; exact hr⟩
    | read =>
      obtain ⟨t, x, hop⟩ := kind_read (kindAt_of hkd ⟨by decide, by decide⟩ (by decide))
      have hx' := hx
      simp only [prepOp, hop] at hx'
      obtain ⟨v, u, h1, h2', h3⟩ := apure_sound (o := o) hop h2.heap h2.fr (read_step hx')
      rw [hrw hkd] at h3
      have h3' : Yields P a o w u := fun w' hb => by have := h3 w' hb; rwa [hex] at this
      rw [h3' w (Below.refl _ _), Oper.upon_value]
      refine same u ⟨u, slot u, .inl ⟨by rw [(keep u).2]; exact hw, ?_⟩⟩
      simp only [hkd]
      exact ⟨trivial, fun w' hb => by rw [(keep u).1]; exact h3' w' hb⟩
    | make =>
      obtain ⟨cs', k, cap, mk, v, g1, g2, g3, g4, g5, g6, g7, g8, g9⟩ := make_of (o := o) (kind_make (kindAt_of hkd ⟨by decide, by decide⟩ (by decide))) rfl h2.fr (make_step (kind_make (kindAt_of hkd ⟨by decide, by decide⟩ (by decide))) hx)
      have hr := g1 w
      rw [hex] at hr
      rw [hr, Oper.upon_value]
      have hb : Below w.heap.size w (w.alloc (.cells cs' k.ty)) := (Below.refl _ _).alloc (Nat.le_refl _) _
      have hT : ∀ c, (B.T c ∨ ∃ j, (if j = i then some w.heap.size else pm j) = some c) → (B.T c ∨ ∃ j, pm j = some c) ∨ c = w.heap.size := fun c hc => by
        rcases hc with hc | ⟨j, hc⟩
        · exact .inl (.inl hc)
        · split at hc
          · cases hc; exact .inr rfl
          · exact .inl (.inr ⟨j, hc⟩)
      refine base (fun j => if j = i then some w.heap.size else pm j) _ _ (fun j hj => by simp [hj]) ((h.heap.keep hb).moreT (fun c hc => ?_) fun b kb hkb hr' hcap => ?_) hb (fun p hp => ?_) ⟨_, slot _, .inl ⟨by rw [(keep _).2]; exact hw, ?_⟩⟩
      · have hsz : (w.alloc (.cells cs' k.ty)).heap.size = w.heap.size + 1 := by show (w.heap.push _).size = _; simp
        rcases hT c hc with hc | hc
        · have := h.heap.tlt c hc; omega
        · omega
      · intro hc
        rcases hT _ hc with hc | hc
        · exact (h.heap.own b kb hkb hr' hcap).out hc
        · have := h.heap.ownLt hkb hr' hcap; omega
      · simp only [if_true, Option.some.injEq] at hp
        subst hp
        exact ⟨h.heap.size, fun hc => absurd (h.heap.tlt _ (.inl hc)) (Nat.lt_irrefl _), fun j hj => absurd (h.heap.tlt _ (.inr ⟨j, hj⟩)) (Nat.lt_irrefl _)⟩
      · simp only [hkd, if_true]
        exact ⟨w, cs', k.ty, rfl, by rw [(keep _).1]; exact hr, heap_alloc_new w _, fun t n ps e => g9 t n ps e _⟩
  · rw [hwa] at hw
    unfold wpOp
    simp only [ho, hw]
    exact same undef ⟨undef, slot undef, .inr ⟨by rw [(keep undef).2]; exact hw, rfl, rfl⟩⟩

def cnt (L : List Nat) (listed : Array Bool) : Nat := (L.filter fun i => !listed.getD i false).length
theorem cnt_set {listed : Array Bool} {i : Nat} (hi : i < listed.size) (hl : listed.getD i false = false) : ∀ {L : List Nat}, L.Nodup → i ∈ L → cnt L (listed.setIfInBounds i true) + 1 = cnt L listed
  | [], _, h => by cases h
  | x :: r, hn, h => by
    have hn' := List.nodup_cons.1 hn
    rcases List.mem_cons.1 h with rfl | h
    · have e : r.filter (fun j => !(listed.setIfInBounds i true).getD j false) = r.filter fun j => !listed.getD j false := List.filter_congr fun j hj => by
        rw [getD_set_ne false (show i ≠ j from fun e => hn'.1 (by rw [e]; exact hj))]
      unfold cnt
      rw [List.filter_cons_of_neg (by rw [getD_set_true' hi]; simp), List.filter_cons_of_pos (by rw [hl]; rfl), e]
      rfl
    · have hne : i ≠ x := fun e => hn'.1 (e ▸ h)
      have ih := cnt_set hi hl hn'.2 h
      unfold cnt at ih ⊢
      cases hx : listed.getD x false with
      | true => rw [List.filter_cons_of_neg (by rw [getD_set_ne false hne, hx]; simp), List.filter_cons_of_neg (by rw [hx]; simp)]; exact ih
      | false =>
        rw [List.filter_cons_of_pos (by rw [getD_set_ne false hne, hx]; rfl), List.filter_cons_of_pos (by rw [hx]; rfl)]
        simp only [List.length_cons]
        omega
theorem cnt_0 {listed : Array Bool} {L : List Nat} (h : cnt L listed = 0) : ∀ i ∈ L, listed.getD i false = true := fun i hi => by
  cases hl : listed.getD i false with
  | true => rfl
  | false =>
    have : i ∈ L.filter fun i => !listed.getD i false := List.mem_filter.2 ⟨hi, by rw [hl]; rfl⟩
    rw [List.eq_nil_of_length_eq_zero h] at this
    cases this
theorem first_un {listed : Array Bool} : ∀ {R : List Nat}, (∃ i ∈ R, listed.getD i false = false) → ∃ R1 i R2, R = R1 ++ i :: R2 ∧ (∀ j ∈ R1, listed.getD j false = true) ∧ listed.getD i false = false
  | [], ⟨_, h, _⟩ => by cases h
  | x :: r, ⟨i, hi, hl⟩ => by
    cases hx : listed.getD x false with
    | false => exact ⟨[], x, r, rfl, by simp, hx⟩
    | true =>
      rcases List.mem_cons.1 hi with rfl | hi
      · rw [hx] at hl; cases hl
      · obtain ⟨R1, j, R2, h1, h2, h3⟩ := first_un ⟨i, hi, hl⟩
        exact ⟨x :: R1, j, R2, by rw [h1]; rfl, fun k hk => (List.mem_cons.1 hk).elim (fun e => e ▸ hx) (h2 k), h3⟩

theorem Sim.any (hO : OrderOk ops ms wl L0 L) (hΓ : SoundE P Γ) {Q : Exit → Act → World → Prop} (hQ : ∀ φ F H a w, St N φ0 n0 B w0 φ F H a w → K F H → Q .normal a w) :
    ∀ (fuel : Nat) {D R : List Nat} {listed : Array Bool} {pm : Nat → Option Nat} {φ : Nat → Place} {F : AFrame} {H : AHeap} {a : Act} {w : World},
    Sim P Γ N n0 φ0 B w0 ops wl L0 L wv kb K D R listed pm φ F H a w → cnt L listed = fuel → wpAny P .any ops Q fuel listed a w
  | 0, D, R, listed, pm, φ, F, H, a, w, h, hc => by
    have hall := cnt_0 hc
    refine ⟨?_, ?_⟩
    · cases hr : Region.ready .any ops listed with
      | nil => rfl
      | cons j r =>
        have hj : j ∈ Region.ready .any ops listed := by rw [hr]; simp
        obtain ⟨h1, oj, h2, _⟩ := mem_ready.1 hj
        have : listed.getD j false = true := (hO.all j (Array.getElem?_eq_some_iff.1 h2).1).elim (h.done0 j) (hall j)
        rw [getD_both h1] at this; cases this
    · obtain ⟨pm', φ', F', H', h'⟩ := Sim.consumes (R := []) hO hΓ R (by simpa using h) fun i hi => hall i (by rw [h.split]; simp [hi])
      have hpm : ∀ i, pm' i = none := fun i => by
        cases hp : pm' i with
        | none => rfl
        | some p => have := (h'.pmR i p hp).1; cases this
      refine hQ φ' F' H' a w ⟨?_, h'.fr, h'.size, h'.nod, h'.below, h'.n, h'.agree⟩ h'.nx
      exact h'.heap.lessT fun c hc => .inl hc
  | fuel + 1, D, R, listed, pm, φ, F, H, a, w, h, hc => by
    have hnd : L.Nodup := hO.pairs.imp fun {x y} hxy => by obtain ⟨_, _, _, _, e⟩ := okP_spec hxy; exact e.ne
    refine ⟨fun hr => ?_, fun i hi => ?_⟩
    · exfalso
      have hex : ∃ i ∈ R, listed.getD i false = false := by
        have : 0 < (L.filter fun i => !listed.getD i false).length := by unfold cnt at hc; omega
        obtain ⟨i, hi⟩ := List.exists_mem_of_length_pos this
        obtain ⟨h1, h2⟩ := List.mem_filter.1 hi
        have hl : listed.getD i false = false := by simpa using h2
        rw [h.split] at h1
        rcases List.mem_append.1 h1 with h1 | h1
        · rw [h.done i h1] at hl; cases hl
        · exact ⟨i, h1, hl⟩
      obtain ⟨R1, i, R2, rfl, h2, h3⟩ := first_un hex
      have hiL : i ∈ L := by rw [h.split]; simp
      have hilt := hO.lt i hiL
      have hw := Sim.waits hO h h2
      have : i ∈ Region.ready .any ops listed := mem_ready.2 ⟨by rw [← h3]; simp [h.lsz, hilt], _, Array.getElem?_eq_getElem hilt, fun e he hb => hw _ (Array.getElem?_eq_getElem hilt) e he hb⟩
      rw [hr] at this; cases this
    · obtain ⟨h1, o, ho, hw⟩ := mem_ready.1 hi
      have hl := getD_both h1
      have hilt := (Array.getElem?_eq_some_iff.1 ho).1
      have hiL : i ∈ L := (hO.all i hilt).resolve_left fun h0 => by rw [h.done0 i h0] at hl; cases hl
      have hwait : WaitsIn ops listed i := fun o' ho' e he hb => by rw [ho] at ho'; cases ho'; exact hw e he hb
      have hiR : i ∈ R := by
        have := hiL
        rw [h.split] at this
        rcases List.mem_append.1 this with h0 | h0
        · rw [h.done i h0] at hl; cases hl
        · exact h0
      have hcn := cnt_set (by rw [h.lsz]; exact hilt) hl hnd hiL
      obtain ⟨R1, R2, rfl⟩ := List.append_of_mem hiR
      by_cases hk : kindAt wl i o = .anch
      · have hpw := hO.pairs
        rw [h.split] at hpw
        have hR1 : ∀ j ∈ R1, listed.getD j false = true := fun j hj => by
          obtain ⟨ox, oy, e1, e2, e3⟩ := okP_spec ((List.pairwise_append.1 (List.pairwise_append.1 hpw).2.1).2.2 j hj i (by simp))
          rw [ho] at e2; cases e2
          exact wt_listed hO.mso h.closed i o ho hwait (e3.anch hk)
        obtain ⟨pm', φ', F', H', h'⟩ := Sim.consumes hO hΓ R1 h hR1
        refine wpOp_mono (fun a' w' hs => ?_) (Sim.run (Q := Q) hO hΓ h' hl)
        obtain ⟨⟨pm2, φ2, F2, H2, h2, _⟩, _⟩ := hs
        exact Sim.any hO hΓ hQ fuel h2 (by omega)
      · refine wpOp_mono (fun a' w' hs => ?_) (Sim.early (Q := Q) hO hΓ h ho hk hl hwait)
        obtain ⟨pm2, φ2, F2, H2, h2⟩ := hs
        exact Sim.any hO hΓ hQ fuel h2 (by omega)

/-- the slots that stand before the region -/
def fresh (F : AFrame) : List Tmp → Prop
  | [] => True
  | t :: r => F.get t = none ∧ fresh F r
theorem fresh_mem {F : AFrame} : ∀ {l : List Tmp}, fresh F l → ∀ t ∈ l, F.get t = none
  | _ :: _, h, s, hs => (List.mem_cons.1 hs).elim (fun e => e ▸ h.1) (fresh_mem h.2 s)
def floats (ops : Array Oper) (wl : WL) (L : List Nat) : List Tmp := L.filterMap fun i => (ops[i]?).bind fun o => if kindAt wl i o = .anch then none else o.dst

/-- what comes first: what the slots alone fix -/
def firstOk (ops : Array Oper) : List Nat → Array Bool → Bool
  | [], _ => true
  | i :: r, listed => (match ops[i]? with | some o => calmB o.op | none => false) && Region.free .any ops listed i && (Region.ready .any ops listed).contains i && firstOk ops r (listed.setIfInBounds i true)
def listAll (l : List Nat) (listed : Array Bool) : Array Bool := l.foldl (fun s i => s.setIfInBounds i true) listed
theorem first_any (hΓ : SoundE P Γ) {Q : Exit → Act → World → Prop} (hsel : Region.noSelect ops = true) {K1 : AFrame → AHeap → Prop} {fuel : Nat} : ∀ (l : List Nat) (listed : Array Bool) {φ : Nat → Place} {F : AFrame} {H : AHeap} {a : Act} {w : World},
    firstOk ops l listed = true → St N φ0 n0 B w0 φ F H a w → aops P Γ N (l.filterMap fun i => (ops[i]?).map (prepOp ops)) F H K1 →
    (∀ F' a', St N φ0 n0 B w0 φ F' H a' w → K1 F' H → wpAny P .any ops Q fuel (listAll l listed) a' w) → (∀ (c : List PanicEntry) (a : Act) w, ¬ Q (.panic c) a w) → wpAny P .any ops Q (l.length + fuel) listed a w
  | [], listed, φ, F, H, a, w, _, hS, h, hk, _ => by rw [List.length_nil, Nat.zero_add]; exact hk F a hS h
  | i :: r, listed, φ, F, H, a, w, hf, hS, h, hk, hp => by
    simp only [firstOk, Bool.and_eq_true] at hf
    obtain ⟨⟨⟨hc, hfr⟩, hrd⟩, hrest⟩ := hf
    cases ho : ops[i]? with
    | none => rw [ho] at hc; cases hc
    | some o =>
      rw [ho] at hc
      simp only [List.filterMap_cons, ho, Option.map_some, aops] at h
      obtain ⟨hd, h⟩ := h
      have hd' : dstOk N o.dst := hd
      rw [List.length_cons, show r.length + 1 + fuel = (r.length + fuel) + 1 by omega]
      rcases guard_of hS.fr h with ⟨hw, hx⟩ | ⟨hw, hx⟩
      · obtain ⟨v, u, h1, h2, h3⟩ := apure_calm (o := o) hc rfl hS.heap hS.fr (calm_step hc hx)
        refine wpAny_take ho hsel hfr hrd (fun c a' w' hpq => (hp c _ w' hpq).elim) (.inl ⟨hw, h3⟩) ?_
        exact first_any hΓ hsel r _ hrest ⟨hS.heap, hS.fr.put hS.size hd' h2, put_size.trans hS.size, put_defers.trans hS.nod, hS.below, hS.n, hS.agree⟩ h1 hk hp
      · refine wpAny_take ho hsel hfr hrd (fun c a' w' hpq => (hp c _ w' hpq).elim) (.inr ⟨hw, rfl⟩) ?_
        exact first_any hΓ hsel r _ hrest ⟨hS.heap, hS.fr.put hS.size hd' (v := .tup []) ⟨[], rfl, trivial⟩, put_size.trans hS.size, put_defers.trans hS.nod, hS.below, hS.n, hS.agree⟩ hx hk hp

theorem listAll_get : ∀ (l : List Nat) (listed : Array Bool) (j : Nat), (∀ i ∈ l, i < listed.size) → ((listAll l listed).getD j false = true ↔ j ∈ l ∨ listed.getD j false = true)
  | [], listed, j, _ => by simp [listAll]
  | i :: r, listed, j, hl => by
    show (listAll r (listed.setIfInBounds i true)).getD j false = true ↔ _
    rw [listAll_get r _ j (fun k hk => by simp; exact hl k (by simp [hk]))]
    constructor
    · rintro (h | h)
      · exact .inl (by simp [h])
      · rcases getD_set_or h with rfl | h
        · exact .inl (by simp)
        · exact .inr h
    · rintro (h | h)
      · rcases List.mem_cons.1 h with rfl | h
        · exact .inr (getD_set_true' (hl _ (by simp)))
        · exact .inl h
      · exact .inr (getD_set_true h)
theorem listAll_size : ∀ (l : List Nat) (listed : Array Bool), (listAll l listed).size = listed.size
  | [], _ => rfl
  | i :: r, listed => by
    show (listAll r (listed.setIfInBounds i true)).size = _
    rw [listAll_size r]; simp
theorem first_closed : ∀ (l : List Nat) (listed : Array Bool), firstOk ops l listed = true → Closed ops listed → Closed ops (listAll l listed)
  | [], _, _, h => h
  | i :: r, listed, hf, h => by
    simp only [firstOk, Bool.and_eq_true] at hf
    obtain ⟨⟨⟨_, _⟩, hrd⟩, hrest⟩ := hf
    have hr := mem_ready.1 (show i ∈ Region.ready .any ops listed by simpa using hrd)
    obtain ⟨_, o, ho, hw⟩ := hr
    exact first_closed r _ hrest (closed_set h fun o' ho' e he hb => by rw [ho] at ho'; cases ho'; exact hw e he hb)
theorem first_lt : ∀ (l : List Nat) (listed : Array Bool), firstOk ops l listed = true → ∀ i ∈ l, i < ops.size
  | [], _, _, _, h => by cases h
  | x :: r, listed, hf, i, hi => by
    simp only [firstOk, Bool.and_eq_true] at hf
    obtain ⟨⟨⟨hc, _⟩, _⟩, hrest⟩ := hf
    rcases List.mem_cons.1 hi with rfl | hi
    · cases ho : ops[i]? with
      | none => rw [ho] at hc; cases hc
      | some o => exact (Array.getElem?_eq_some_iff.1 ho).1
    · exact first_lt r _ hrest i hi
theorem wstart_spec {φ : Nat → Place} {F : AFrame} {H : AHeap} {a : Act} {w : World} (hH : HRep φ B H w) (hF : FRep φ H.n F a.tmps) : ∀ (l : List Op) {X : List (Op × AV) → Prop}, wstart P H F l X → ∃ vs : List AV, vs.length = l.length ∧ (∀ v ∈ vs, heldV H.n v) ∧ X (l.zip vs)
  | [], X, h => ⟨[], rfl, by simp, h⟩
  | op :: r, X, h => by
    obtain ⟨v, u, ⟨h1, h⟩, _, _⟩ := apure_sound (o := { dst := none, op := op, type := 0, pos := "", after := #[], guard := none }) rfl hH hF h
    obtain ⟨vs, g1, g2, g3⟩ := wstart_spec hH hF r h
    exact ⟨v :: vs, by simp [g1], fun x hx => (List.mem_cons.1 hx).elim (fun e => e ▸ h1) (g2 x), g3⟩
def lookV : List (Nat × AV) → Nat → AV
  | [], _ => .tup []
  | (j, v) :: r, i => if j = i then v else lookV r i
theorem fm_congr {α β : Type} {f g : α → Option β} : ∀ {l : List α}, (∀ x ∈ l, f x = g x) → l.filterMap f = l.filterMap g
  | [], _ => rfl
  | x :: r, h => by
    have ih := fm_congr (l := r) fun y hy => h y (by simp [hy])
    simp only [List.filterMap_cons, h x (by simp), ih]
def wsL (ops : Array Oper) (wl : List Nat) (wv : Nat → AV) : List (Op × AV) := wl.filterMap fun i => (ops[i]?).map fun o => (o.op, wv i)
theorem ws_zip : ∀ (wl : List Nat) (vs : List AV), wl.Nodup → vs.length = wl.length → (∀ i ∈ wl, ∃ o, ops[i]? = some o) → wsL ops wl (lookV (wl.zip vs)) = (wl.filterMap fun i => (ops[i]?).map (·.op)).zip vs
  | [], _, _, _, _ => rfl
  | i :: r, [], _, h, _ => by simp at h
  | i :: r, v :: vs, hn, hl, ho => by
    obtain ⟨o, h1⟩ := ho i (by simp)
    have hn' := List.nodup_cons.1 hn
    have ih := ws_zip r vs hn'.2 (by simpa using hl) fun j hj => ho j (by simp [hj])
    simp only [wsL, List.zip_cons_cons, List.filterMap_cons, h1, Option.map_some, lookV, if_true, List.cons.injEq, true_and]
    rw [← ih]
    unfold wsL
    refine fm_congr fun j hj => ?_
    have hne : i ≠ j := fun e => hn'.1 (by rw [e]; exact hj)
    simp only [hne, if_false]
theorem look_plain {n : Nat} : ∀ (wl : List Nat) (vs : List AV), vs.length = wl.length → (∀ v ∈ vs, heldV n v) → ∀ i ∈ wl, heldV n (lookV (wl.zip vs) i)
  | [], _, _, _, i, h => by cases h
  | j :: r, [], h, _, _, _ => by simp at h
  | j :: r, v :: vs, hl, hp, i, hi => by
    simp only [List.zip_cons_cons, lookV]
    split
    · exact hp v (by simp)
    · rename_i hne
      exact look_plain r vs (by simpa using hl) (fun x hx => hp x (by simp [hx])) i ((List.mem_cons.1 hi).resolve_left fun e => hne e.symm)

theorem wp_region_order (hΓ : SoundE P Γ) {id : Nat} {Q : Exit → Act → World → Prop} {φ : Nat → Place} {F : AFrame} {H : AHeap} {a : Act} {w : World} (hm : P.follows .mixedOrders = true) (hO : OrderOk ops ms wl L0 L) (hnd : wl.w.Nodup) (ks : List Tmp)
    (hf0 : firstOk ops L0 (Array.replicate ops.size false) = true) (hS : St N φ0 n0 B w0 φ F H a w)
    (h : aops P Γ N (L0.filterMap fun i => (ops[i]?).map (prepOp ops)) F H fun F' H' => fresh F' (floats ops wl L) ∧ wstart P H' F' (wl.w.filterMap fun i => (ops[i]?).map (·.op)) fun ws => kstart H' F' ks fun kb => aopsW P Γ N ws kb (ltOf ops wl) (L.filterMap fun i => (ops[i]?).map (prepOp ops)) F' H' K)
    (hQ : ∀ φ F H a w, St N φ0 n0 B w0 φ F H a w → K F H → Q .normal a w) : (Code.region id ops true).wp P Q a w := by
  refine wp_mono (Q := fun e a w => e = .normal ∧ Q e a w) ?_ (fun _ _ _ h => h.2)
  refine wp_region_any hm ?_
  have hd : Below w.heap.size w { w with drawn := w.drawn + 1 } := ⟨rfl, rfl, rfl, Nat.le_refl _, fun _ _ => rfl⟩
  have hun : ∀ j, (Array.replicate ops.size false).getD j false = false := fun j => by simp [Array.getElem?_replicate]; split <;> rfl
  have hS' : St N φ0 n0 B w0 φ F H a { w with drawn := w.drawn + 1 } := ⟨hS.heap.keep hd, hS.fr, hS.size, hS.nod, hS.below.trans (.of_below hS.heap.size hS.heap.tlt hd), hS.n, hS.agree⟩
  have hlt0 := first_lt L0 _ hf0
  have hget := fun j => listAll_get L0 (Array.replicate ops.size false) j (fun i hi => by simpa using hlt0 i hi)
  have key := first_any (Q := fun e a w => e = .normal ∧ Q e a w) (fuel := L.length) hΓ hO.sel L0 _ hf0 hS' h (fun F' a' hS2 hk => ?_) (fun c a w hq => by cases hq.1)
  · rwa [hO.len] at key
  obtain ⟨hfr, hws⟩ := hk
  obtain ⟨vs, v1, v2, v3⟩ := wstart_spec hS2.heap hS2.fr _ hws
  have hwl : ∀ i ∈ wl.w, ∃ o, ops[i]? = some o := fun i hi => by obtain ⟨o, _, _, ho, _⟩ := hO.wlo i hi; exact ⟨o, ho⟩
  have hlen : vs.length = wl.w.length := by
    rw [v1]
    have : ∀ l : List Nat, (∀ i ∈ l, ∃ o, ops[i]? = some o) → (l.filterMap fun i => (ops[i]?).map (·.op)).length = l.length := by
      intro l
      induction l with
      | nil => intro _; rfl
      | cons i r ih =>
        intro hl
        obtain ⟨o, ho⟩ := hl i (by simp)
        simp only [List.filterMap_cons, ho, Option.map_some, List.length_cons]
        rw [ih fun j hj => hl j (by simp [hj])]
    exact this wl.w hwl
  rw [← ws_zip wl.w vs hnd hlen hwl] at v3
  obtain ⟨kb, hkb, v3⟩ := kstart_spec ks v3
  have hkn : ∀ p ∈ kb, p.1 < H.n := fun p hp => hS2.heap.lt p.1 p.2 (keepB_mem hkb p hp)
  have hnot := hO.dis
  refine Sim.any (n0 := H.n) (φ0 := φ) (wv := lookV (wl.w.zip vs)) (kb := kb) (D := []) (R := L) (pm := fun _ => none) (φ := φ) (F := F') (H := H) hO hΓ (fun φ1 F1 H1 a1 w1 hS1 hK1 => ⟨rfl, hQ φ1 F1 H1 a1 w1 ⟨hS1.heap, hS1.fr, hS1.size, hS1.nod, hS1.below, Nat.le_trans hS2.n hS1.n, fun b hb => (hS1.agree b (Nat.lt_of_lt_of_le hb hS2.n)).trans (hS2.agree b hb)⟩ hK1⟩) _ ⟨rfl, fun i hi => (hget i).2 (.inl hi), by simp, (hS2.heap.lessT (T' := fun c => B.T c ∨ ∃ i : Nat, (none : Option Nat) = some c) fun c hc => ?_), hS2.fr, hS2.size, hS2.nod, hS2.below, Nat.le_refl _, fun _ _ => rfl,
    fun i p hp => (by cases hp), fun i j p hp => (by cases hp), fun i p hp => (by cases hp), fun i hi hl => ?_, fun i hi o ho hk d hd' => ?_, first_closed L0 _ hf0 fun j o ho hl => ?_, by rw [listAll_size]; simp, look_plain wl.w vs hlen v2, hkn, v3⟩ ?_
  · rcases hc with hc | ⟨i, hc⟩
    · exact hc
    · cases hc
  · rcases (hget i).1 hl with h0 | h0
    · exact absurd h0 (hnot i hi)
    · rw [hun] at h0; cases h0
  · exact fresh_mem hfr d (List.mem_filterMap.2 ⟨i, hi, by rw [ho]; simp only [Option.bind_some]; rw [if_neg hk]; exact hd'⟩)
  · rw [hun] at hl; cases hl
  · unfold cnt
    rw [List.filter_eq_self.2 fun j hj => ?_]
    cases hl : (listAll L0 (Array.replicate ops.size false)).getD j false with
    | false => rfl
    | true =>
      rcases (hget j).1 hl with h0 | h0
      · exact absurd h0 (hnot j hj)
      · rw [hun] at h0; cases h0

/-! ### finding such an order -/
def dmOf : List Edge → Nat
  | [] => 0
  | e :: r => if Region.binds .any e = true then 2 ^ e.on ||| dmOf r else dmOf r
def pickOne (ops : Array Oper) (dm : List Nat) (done : Nat) (mk : Bool) : List Nat → Option Nat
  | [] => none
  | x :: r => if (dm.getD x 0 &&& done) == dm.getD x 0 && (mk || match ops[x]? with | some o => !makeB o.op | none => true) then some x else pickOne ops dm done mk r
def seg (ops : Array Oper) (dm : List Nat) : Nat → List Nat → Nat → List Nat → List Nat × Nat
  | 0, _, done, acc => (acc, done)
  | f + 1, S, done, acc => match pickOne ops dm done false S with
    | some x => seg ops dm f (S.filter fun y => !(y == x)) (done ||| 2 ^ x) (x :: acc)
    | none => match pickOne ops dm done true S with
      | some x => seg ops dm f (S.filter fun y => !(y == x)) (done ||| 2 ^ x) (x :: acc)
      | none => (acc, done)
def segs (ops : Array Oper) (ms dm : List Nat) : List Nat → Nat → List Nat → List Nat × Nat
  | [], done, acc => (acc, done)
  | j :: r, done, acc =>
    let S := (List.range ops.size).filter fun x => wt ms j x && !done.testBit x
    let (acc', done') := seg ops dm ops.size S done acc
    segs ops ms dm r (done' ||| 2 ^ j) (j :: acc')
def canon0 (ops : Array Oper) (ms L0 : List Nat) : List Nat :=
  let dm := ops.toList.map fun o => dmOf o.after.toList
  let A := (List.range ops.size).filter fun j => match ops[j]? with | some o => kindOf o == .anch | none => false
  let d0 := L0.foldl (fun d x => d ||| 2 ^ x) 0
  let (acc, done) := segs ops ms dm A d0 []
  let (acc', _) := seg ops dm ops.size ((List.range ops.size).filter fun x => !done.testBit x) done acc
  acc'.reverse
structure Plan where
  wl : WL
  ks : List Tmp
  L0 : List Nat
  L : List Nat
def watchPlan (ops : Array Oper) (ms : List Nat) (mk : Bool) : Plan :=
  let rng := List.range ops.size
  let cand := rng.filter fun y => match ops[y]? with
    | some oy => loadB oy && (rng.any fun x => match ops[x]? with | some ox => (kindOf ox == .anch && !still ox || mk && kindOf ox == .make) && !wt ms y x && !wt ms x y | none => false)
    | none => false
  let L0 := rng.filter fun x => match ops[x]? with
    | some ox => calmB ox.op && (cand.any fun y => wt ms y x) && (rng.all fun z => !wt ms x z || (match ops[z]? with | some oz => calmB oz.op | none => false))
    | none => false
  let lt := cand.filter fun y => match ops[y]? with
    | some oy => lateB ops oy && (match oy.op with
      | .load _ (.tmp x) => rng.any fun z => (((ops[z]?).bind (·.dst)) == some x) && !L0.contains z
      | _ => false)
    | none => false
  let whose : Tmp → Option Nat := fun t => rng.find? fun z => ((ops[z]?).bind (·.dst)) == some t
  let mm : List (Nat × Nat × Nat) := lt.filterMap fun y => match ops[y]? with
    | some oy => (match oy.op with
      | .load _ (.tmp x) => (whose x).bind fun z => match ops[z]? with
        | some oz => (match oz.op with
          | .indexAddr _ (.tmp b) _ => (whose b).bind fun m => match ops[m]? with
            | some om => (match om.op with
              | .buildSlice _ _ _ => some (y, z, m)
              | _ => none)
            | none => none
          | _ => none)
        | none => none
      | _ => none)
    | none => none
  let wl := cand.filter fun y => !lt.contains y
  let lt := lt.filter fun y => !(mm.any fun q => q.1 == y)
  let ks := if lt.isEmpty then [] else (rng.filterMap fun x => (ops[x]?).bind fun ox => match ox.op with
    | .indexAddr _ (.tmp b) _ => if (lt.any fun y => wt ms y x) && (L0.any fun z => ((ops[z]?).bind (·.dst)) == some b) then some b else none
    | _ => none)
  ⟨⟨wl, lt, mm⟩, ks, L0, mm.foldl (fun l q => (l.filter fun j => j != q.2.1 && j != q.2.2).flatMap fun j => if j == q.1 then [q.2.2, q.2.1, j] else [j]) (canon0 ops ms L0)⟩
def canon (ops : Array Oper) (ms : List Nat) : Plan :=
  let L := canon0 ops ms []
  if orderOk ops ms ⟨[], [], []⟩ [] L = true then ⟨⟨[], [], []⟩, [], [], L⟩ else
    let p := watchPlan ops ms false
    if orderOk ops ms p.wl p.L0 p.L = true then p else watchPlan ops ms true
def planOk (ops : Array Oper) (ms : List Nat) (p : Plan) : Bool := orderOk ops ms p.wl p.L0 p.L && firstOk ops p.L0 (Array.replicate ops.size false) && decide p.wl.w.Nodup
end
end Go.Proofs.YtafenginfojcmaaGreatDoor
