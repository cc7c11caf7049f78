/- The abstract machine, part K: append, bytes out of a string, calls; soundness of all operations. No program is named here. -/
import Derived.Test.YtafenginfojcmaaGreatDoorAbsJ
namespace Go.Proofs.YtafenginfojcmaaGreatDoor
open Go.RowKit

section
variable {P : Program} {φ : Nat → Place} {H : AHeap} {F : AFrame} {a : Act} {B : Bd} {w : World}

theorem e_bytes {o : Oper} {s d : TypeId} {x : Operand} {K : AV → AHeap → Prop} (ho : o.op = .convert s d x) (hH : HRep φ B H w) (hF : FRep φ H.n F a.tmps) (h : aeff P H F (.convert s d x) K) : EffOk P φ B H w a o K := by
  simp only [aeff] at h
  obtain ⟨v, hv, h⟩ := onv_iff.1 h
  obtain ⟨sk, hs, h⟩ := onv_iff.1 h
  obtain ⟨dk, hd, h⟩ := onv_iff.1 h
  have he := eval_of hF hv
  split at h
  · rename_i l e _ _
    have hx : a.eval x = .string ⟨l.toArray⟩ := he
    obtain ⟨sl, hsl, h1, h2, hK⟩ := onv_iff.1 h
    have gs := dK_str hs
    obtain ⟨gd, ge⟩ := dK_bytes hd
    have hcap := grownCap_ge w l.length 0 e
    have hcm := grownCap_le_maxLen w l.length 0 e (by simp only [maxLen]; omega)
    generalize hg : grownCap w l.length 0 e = cap at hcap hcm
    let cs : Array Value := (l.map fun c => Value.int .u8 (c.toNat : Int)).toArray ++ Array.replicate (cap - l.length) (.int .u8 0)
    have hcs : cs.size = cap := by simp [cs]; omega
    let w' : World := (w.drew.alloc (.cells cs e)).freeze ⟨w.heap.size, cap, none⟩ 1
    have hrun : (execOp a.eval o).run P w = .ok (.value (.slice (some ⟨w.heap.size, 0, none⟩) l.length cap)) w' := by
      have hsh : (w.drew.alloc (.cells cs e)).shape? w.heap.size = some (e, cap) := by
        simp only [World.shape?]
        rw [show (w.drew.alloc (.cells cs e)).heap[w.heap.size]? = some (.cells cs e) from heap_alloc_new w.drew _]
        simp [hcs]
      have hcs' : ((⟨l.toArray⟩ : ByteArray).data.map fun b => Value.int .u8 (b.toNat : Int)) ++ Array.replicate (cap - l.length) (Value.int .u8 0) = cs := by
        simp [cs]
      have hq : (choose (.appendCap l.length 0 e)).run P w = .ok cap w.drew := by
        rw [run_choose, if_neg (by simp [Question.forced])]
        rw [← hg]; rfl
      simp only [execOp, ho, hx, Sem.run_bind, convert, run_underlying gs, run_underlying gd, run_underlying ge, Result.andThen_ok, Conv.stringToBytes, size_mk, hq, hcs', newRow, run_newObj, Sem.run_pure, markStringish, run_shape]
      have hw : ({ w.drew with heap := w.drew.heap.push (.cells cs e) } : World) = w.drew.alloc (.cells cs e) := rfl
      simp only [hw, show w.drew.heap.size = w.heap.size from rfl, hsh, run_freeze, Result.andThen_ok]
      rfl
    have hheap : w'.heap[w.heap.size]? = some (.cells cs e (cap, cap + 1)) := by
      have h0 : (w.drew.alloc (.cells cs e)).heap[w.heap.size]? = some (.cells cs e) := heap_alloc_new w.drew _
      simp only [w', World.freeze]
      rw [if_neg (by decide), Array.getElem?_modify, if_pos rfl, h0]
      rfl
    have hbel : ∀ c, c < w.heap.size → w'.heap[c]? = w.heap[c]? := fun c hc => by
      simp only [w', World.freeze]
      rw [if_neg (by decide)]
      rw [Array.getElem?_modify, if_neg (by omega)]
      exact Below.heap_alloc w.drew _ c hc
    have hsz : w.heap.size ≤ w'.heap.size := by
      simp only [w', World.freeze]
      rw [if_neg (by decide), Array.size_modify]
      simp
    have hp := hH.row (k := ⟨e, 1, false, true, l.map fun c => [AC.int .u8 c.toNat]⟩) (cs := cs) (cap := cap) (w' := w') (fz := (cap, cap + 1)) rfl
      ⟨rfl, rfl, rfl, hsz, hbel⟩ hheap (by simp [hcs]) (by simpa using hcap) hcm (fun hc => by cases hc) (fun o ho => by omega) (by
        intro i e' hi
        simp only [List.getElem?_map, Option.map_eq_some_iff] at hi
        obtain ⟨c, hc, rfl⟩ := hi
        refine ⟨rfl, fun j y hy => ?_⟩
        cases j with
        | zero =>
          simp at hy; subst hy
          refine ⟨_, ?_, rfl⟩
          have hil := (List.getElem?_eq_some_iff.1 hc).1
          simp only [cs, Nat.mul_one, Nat.add_zero]
          rw [Array.getElem?_append_left (by simpa using hil)]
          simp [hc]
        | succ j => simp at hy)
    refine EffOk.of_value hrun hK ⟨Nat.lt_succ_self _, _, _, rfl, hcap, ?_, fun _ => ?_⟩ hp
      (.of_below hH.size hH.tlt ⟨rfl, rfl, rfl, hsz, hbel⟩) (Nat.le_succ _) updP_old
    · rw [updP_new]; simp
    · rw [updP_new]; simp [Place.adr]
  · exact h.elim

/-! ### append -/
/-- what is appended -/
theorem news_of {esz : Nat} {yv : AV} {y : Value} (hH : HRep φ B H w) (he : RepV φ H.n yv y) {news : List (List AC)} (h : newsOf H esz yv = some news) :
    ∃ A c vs, y = .slice A news.length c ∧ (∀ e ∈ news, e.length = esz) ∧ RepL φ H.n news.flatten vs ∧ vs.length = news.length * esz ∧
      (news.length = 0 ∨ ∃ ad, A = some ad ∧ ∀ (j : Nat) (v : Value), vs[j]? = some v → w.cell? (ad.add j) = some v) := by
  unfold newsOf at h
  split at h
  · simp at h; subst h
    obtain ⟨ad, rfl⟩ := (show RepC φ H.n .nils _ from he)
    exact ⟨ad, 0, [], rfl, by simp, by simp [RepL], by simp, .inl rfl⟩
  · rename_i b i m
    obtain ⟨hb, ad, cap, rfl, hn, hcap, had⟩ := (show RepC φ H.n (.sl b i m) _ from he)
    simp only [Option.bind_eq_some_iff] at h
    obtain ⟨k, hk, h⟩ := h
    split at h
    · rename_i hc
      simp at h; subst h
      have hbc := hH.cells b k hk
      obtain ⟨vs, h1, h2, h3⟩ := hbc.rowOf m i hc.1
      have hlen : ((k.els.drop i).take m).length = m := by simp; omega
      refine ⟨ad, cap, vs, by rw [hlen], fun e he' => ?_, h1, by rw [h2, hlen, hc.2], ?_⟩
      · have := List.mem_of_mem_drop (List.mem_of_mem_take he')
        obtain ⟨q, hq⟩ := List.getElem?_of_mem this
        rw [← hc.2]; exact hbc.len q e hq
      · rcases Nat.eq_zero_or_pos m with h0 | h0
        · exact .inl (by rw [hlen]; exact h0)
        · refine .inr ⟨_, had (by omega), fun j v hv => ?_⟩
          rw [adr_add, Nat.zero_add]
          exact h3 j v hv
    · cases h
  · cases h

theorem flat_rep {n esz : Nat} : ∀ {els : List (List AC)} {vs : List Value}, (∀ e ∈ els, e.length = esz) → RepL φ n els.flatten vs → ∀ (tail : List Value), CellsRep φ n esz els (vs ++ tail).toArray
  | [], _, _, _, _, i, e, hi => by simp at hi
  | e0 :: r, vs, hl, h, tail, i, e, hi => by
    rw [List.flatten_cons] at h
    have hlen := h.length
    rw [List.length_append] at hlen
    have h0 := hl e0 (by simp)
    cases i with
    | zero =>
      simp at hi; subst hi
      refine ⟨h0, fun j x hx => ?_⟩
      have hj : j < e0.length := (List.getElem?_eq_some_iff.1 hx).1
      obtain ⟨v, h1, h2⟩ := h.get j x (by rw [List.getElem?_append_left hj]; exact hx)
      refine ⟨v, ?_, h2⟩
      have : j < vs.length := (List.getElem?_eq_some_iff.1 h1).1
      simp only [Nat.zero_mul, Nat.zero_add, List.getElem?_toArray]
      rw [List.getElem?_append_left this]; exact h1
    | succ i =>
      have hr : RepL φ n r.flatten (vs.drop e0.length) := by
        have key : ∀ (xs ys : List AC) (us : List Value), RepL φ n (xs ++ ys) us → RepL φ n ys (us.drop xs.length) := by
          intro xs
          induction xs with
          | nil => intro ys us h; simpa using h
          | cons x xs ih =>
            intro ys us h
            cases us with
            | nil => exact h.elim
            | cons u us => simpa using ih ys us h.2
        exact key _ _ _ h
      have ih := flat_rep (fun e he => hl e (by simp [he])) hr tail i e (by simpa using hi)
      refine ⟨ih.1, fun j x hx => ?_⟩
      obtain ⟨v, h1, h2⟩ := ih.2 j x hx
      refine ⟨v, ?_, h2⟩
      rw [← h1]
      simp only [List.getElem?_toArray]
      have hvs : vs = vs.take e0.length ++ vs.drop e0.length := (List.take_append_drop _ _).symm
      have htl : (vs.take e0.length).length = esz := by simp [List.length_take]; omega
      rw [show (i + 1) * esz + j = esz + (i * esz + j) by rw [Nat.add_mul]; omega]
      conv => lhs; rw [hvs, List.append_assoc]
      rw [List.getElem?_append_right (by omega), htl]
      congr 1
      omega

/-- append of nothing -/
theorem run_append_zero {t ty e : TypeId} {i : TypeInfo} {A A' : Option Addr} {n cap c : Nat} (ht : P.underlying t = some (.slice e)) (hi : P.info? e = some i) (hc : n ≤ cap) :
    (Builtin.append_ #[t, t] ty #[.slice A n cap, .slice A' 0 c]).run P w = .ok (.slice A n cap) w := by
  cases A <;> cases A' <;> simp [Builtin.append_, run_underlying ht, sizeOf, typeInfo, hi, Builtin.lenOf, Builtin.firstCells, hc, loadCells, loadCellsFrom, storeCells]

theorem append_nils {o : Oper} {x y : Operand} {t : TypeId} {K : AV → AHeap → Prop} {s : TypeId × Nat × Nat} {inf : TypeInfo} {zv : Value} {news : List (List AC)} {A : Option Addr} {c : Nat} {vs : List Value}
    (hH : HRep φ B H w) (hrun : ∀ {u : Value} {w' : World}, (Builtin.append_ #[t, t] o.type #[a.eval x, a.eval y]).run P w = .ok u w' → (execOp a.eval o).run P w = .ok (.value u) w')
    (g1 : P.underlying t = some (.slice s.1)) (g2 : P.info? s.1 = some inf) (g3 : inf.size = s.2.1) (g4 : inf.bytes = s.2.2) (e2 : inf.zero = some zv) (e3 : zv.cells.size = inf.size)
    (hy : a.eval y = .slice A news.length c) (hnl : ∀ e ∈ news, e.length = s.2.1) (hnr : RepL φ H.n news.flatten vs) (hvl : vs.length = news.length * s.2.1)
    (hcell : news.length = 0 ∨ ∃ ad, A = some ad ∧ ∀ (j : Nat) (v : Value), vs[j]? = some v → w.cell? (ad.add j) = some v)
    (hex : RepV φ H.n (.c .nils) (a.eval x)) (hb1 : news.length * s.2.2 ≤ 140737488355328) (hb2 : news.length ≤ 140737488355328) (hK : K (.c (.sl H.n 0 news.length)) (H.push ⟨s.1, s.2.1, false, false, news⟩)) :
    EffOk P φ B H w a o K := by
  have hmax : (140737488355328 : Nat) ≤ maxLen := by decide
  obtain ⟨A0, hx⟩ := (show RepC φ H.n .nils _ from hex)
  by_cases hm : news.length = 0
  · have hn0 : news = [] := List.eq_nil_of_length_eq_zero hm
    subst hn0
    have hr := run_append_zero (P := P) (w := w) (ty := o.type) (A := A0) (A' := A) (n := 0) (cap := 0) (c := c) g1 g2 (Nat.le_refl _)
    have hp : HRep (updP φ H.n ⟨0, 0, s.2.1, 0⟩) B (H.push ⟨s.1, s.2.1, false, false, []⟩) w := hH.push rfl
      ⟨rfl, Nat.le_refl _, fun i e hi => by simp at hi, fun i e hi => by simp at hi⟩ (fun h0 => absurd h0 (Nat.lt_irrefl 0)) (fun h0 => absurd h0 (Nat.lt_irrefl 0))
    refine EffOk.of_value (hrun (by rw [hx, hy]; exact hr)) hK ⟨Nat.lt_succ_self _, _, _, rfl, Nat.le_refl _, ?_, fun h0 => absurd h0 (Nat.lt_irrefl 0)⟩ hp (Kept.refl _ _) (Nat.le_succ _) updP_old
    rw [updP_new]; simp
  · obtain ⟨ad, hA, hcl⟩ := hcell.resolve_left hm
    subst hA
    have hge := grownCap_ge w news.length 0 s.1
    have hcm := grownCap_le_maxLen w news.length 0 s.1 (by omega)
    have hr : (Builtin.append_ #[t, t] o.type #[.slice A0 0 0, .slice (some ad) news.length c]).run P w =
        .ok (.slice (some ⟨w.heap.size, 0, none⟩) news.length (grownCap w news.length 0 s.1)) (w.drew.alloc (.cells (vs ++ (Builtin.zeroCells zv.cells (grownCap w news.length 0 s.1 - news.length)).toList).toArray s.1)) := by
      cases A0 with
      | none =>
        have := run_append_nil (P := P) w t o.type s.1 inf zv g1 g2 e2 ad news.length c vs (by rw [hvl, g3]) hcl (by omega) (by omega) (by rw [g4]; omega)
        rw [this]; congr 4; simp
      | some a0 =>
        have := run_append_grow (P := P) w t o.type s.1 inf zv g1 g2 e2 a0 0 0 [] (by simp) (by simp) ad news.length c vs (by rw [hvl, g3]) hcl (by omega) (by omega) (growslice_fits (by omega) (by rw [Nat.zero_add, g4]; exact hb1))
        simp only [Nat.zero_add] at this
        rw [this]; congr 4; simp
    have hp := HRep.row (w := w) hH (k := ⟨s.1, s.2.1, false, false, news⟩) (cs := (vs ++ (Builtin.zeroCells zv.cells (grownCap w news.length 0 s.1 - news.length)).toList).toArray)
      (cap := grownCap w news.length 0 s.1) (w' := w.drew.alloc (.cells (vs ++ (Builtin.zeroCells zv.cells (grownCap w news.length 0 s.1 - news.length)).toList).toArray s.1)) (fz := (0, 0)) rfl
      (((Below.refl _ _).drew).alloc (Nat.le_refl _) _) (heap_alloc_new w.drew _) (by
        have : (news.length + (grownCap w news.length 0 s.1 - news.length)) * s.2.1 = grownCap w news.length 0 s.1 * s.2.1 := by congr 1; omega
        simp [size_zeroCells, hvl, e3, g3, ← Nat.add_mul, this]) hge hcm (fun _ => rfl) (by omega) (flat_rep hnl hnr _)
    refine EffOk.of_value (hrun (by rw [hx, hy]; exact hr)) hK ⟨Nat.lt_succ_self _, _, _, rfl, hge, ?_, fun _ => ?_⟩ hp (.of_below hH.size hH.tlt (((Below.refl _ _).drew).alloc (Nat.le_refl _) _)) (Nat.le_succ _) updP_old
    · rw [updP_new]; simp
    · rw [updP_new]; simp [Place.adr]

theorem append_own {o : Oper} {x y : Operand} {t : TypeId} {K : AV → AHeap → Prop} {s : TypeId × Nat × Nat} {inf : TypeInfo} {zv : Value} {news : List (List AC)} {A : Option Addr} {c b n : Nat} {vs : List Value} {k : ABlk}
    (hH : HRep φ B H w) (hrun : ∀ {u : Value} {w' : World}, (Builtin.append_ #[t, t] o.type #[a.eval x, a.eval y]).run P w = .ok u w' → (execOp a.eval o).run P w = .ok (.value u) w')
    (g1 : P.underlying t = some (.slice s.1)) (g2 : P.info? s.1 = some inf) (g3 : inf.size = s.2.1) (g4 : inf.bytes = s.2.2) (e2 : inf.zero = some zv) (e3 : zv.cells.size = inf.size)
    (hy : a.eval y = .slice A news.length c) (hnl : ∀ e ∈ news, e.length = s.2.1) (hnr : RepL φ H.n news.flatten vs) (hvl : vs.length = news.length * s.2.1)
    (hcell : news.length = 0 ∨ ∃ ad, A = some ad ∧ ∀ (j : Nat) (v : Value), vs[j]? = some v → w.cell? (ad.add j) = some v)
    (hex : RepV φ H.n (.c (.sl b 0 n)) (a.eval x)) (hk : H.b b = some k) (h2 : k.ro = false) (h3 : k.fz = false) (h4 : k.ty = s.1) (h5 : k.esz = s.2.1) (h6 : n ≤ k.els.length)
    (hb1 : (n + news.length) * s.2.2 ≤ 140737488355328) (hb2 : n + news.length ≤ 140737488355328)
    (hK : K (.c (.sl H.n 0 (n + news.length))) ((H.kill b).push ⟨s.1, s.2.1, false, false, k.els.take n ++ news⟩)) :
    EffOk P φ B H w a o K := by
  have hone := hnr.one
  have hmax : (140737488355328 : Nat) ≤ maxLen := by decide
  obtain ⟨hb, ad, cap, hx, hn, hcap, had⟩ := (show RepC φ H.n (.sl b 0 n) _ from hex)
  have hbc := hH.cells b k hk
  obtain ⟨vs0, r1, r2, r3⟩ := hbc.rowOf n 0 (by omega)
  rw [List.drop_zero] at r1
  rw [h5] at r2
  have hkl : ∀ e ∈ k.els, e.length = s.2.1 := fun e he => by
    obtain ⟨q, hq⟩ := List.getElem?_of_mem he
    rw [← h5]; exact hbc.len q e hq
  have hel : ∀ e ∈ k.els.take n ++ news, e.length = s.2.1 := fun e he => by
    rcases List.mem_append.1 he with he | he
    · exact hkl e (List.mem_of_mem_take he)
    · exact hnl e he
  have hrr : RepL φ H.n (k.els.take n ++ news).flatten (vs0 ++ vs) := by
    rw [List.flatten_append]; exact r1.append hnr
  have hlen : (k.els.take n ++ news).length = n + news.length := by simp; omega
  have hfresh : 0 < (φ b).cap → ∀ b' k', (H.kill b).b b' = some k' → k'.ro = false → 0 < (φ b').cap → (φ b').blk ≠ (φ b).blk := fun hp b' k' hk' hr' hp' he => by
    simp only [AHeap.kill] at hk'
    split at hk'
    · cases hk'
    · rename_i hne; exact hne (hH.apart b' k' b k hk' hk hr' h2 hp' hp he)
  by_cases hm : news.length = 0
  · have hn0 : news = [] := List.eq_nil_of_length_eq_zero hm
    subst hn0
    have hr := run_append_zero (P := P) (w := w) (ty := o.type) (A := ad) (A' := A) (n := n) (cap := cap) (c := c) g1 g2 hn
    have hp : HRep (updP φ H.n (φ b)) B ((H.kill b).push ⟨s.1, s.2.1, false, false, k.els.take n ++ []⟩) w := by
      refine (hH.kill b).push rfl ⟨by rw [hbc.esz, h5], by rw [hlen]; simp; omega, fun i e hi => ?_, fun i e hi => ?_⟩ (fun hp => ?_) hfresh
      · exact hel e (List.mem_of_getElem? hi)
      · rw [List.append_nil, List.getElem?_take] at hi
        split at hi
        · exact hbc.cell i e hi
        · cases hi
      · obtain ⟨f1, fo, f2, f3, cs, fz, f4, f5, f6, f7⟩ := hH.own b k hk h2 hp
        exact ⟨f1, fo, f2, f3, cs, fz, by rw [← h4]; exact f4, f5, fun _ => f6 h3, f7⟩
    refine EffOk.of_value (hrun (by rw [hx, hy]; exact hr)) hK ⟨Nat.lt_succ_self _, _, _, rfl, hn, ?_, fun h0 => ?_⟩ hp (Kept.refl _ _) (Nat.le_succ _) updP_old
    · rw [updP_new]; exact hcap
    · rw [updP_new]; exact had h0
  · obtain ⟨ad', hA, hcl⟩ := hcell.resolve_left hm
    subst hA
    by_cases hroom : n + news.length ≤ cap
    · have hp : 0 < (φ b).cap := by omega
      obtain ⟨f1, fo, f2, f3, cs, fz, f4, f5, f6, f7⟩ := hH.own b k hk h2 hp
      have hfz := f6 h3
      subst hfz
      rw [h4] at f4
      have hA := had (by omega)
      have hadr : (φ b).adr 0 0 = ⟨(φ b).blk, 0, none⟩ := by simp [Place.adr, f2]
      rw [hadr] at hA
      subst hA
      have hcs : (n + news.length) * s.2.1 ≤ cs.size := by
        rw [f5, hbc.esz, h5]; exact Nat.mul_le_mul_right _ (by omega)
      rw [Nat.add_mul] at hcs
      have htake : cs.toList.take (n * s.2.1) = vs0 := by
        apply List.ext_getElem?
        intro j
        rw [List.getElem?_take]
        split
        · rename_i hj
          obtain ⟨v, hv⟩ : ∃ v, vs0[j]? = some v := ⟨_, List.getElem?_eq_getElem (by omega)⟩
          have := r3 j v hv
          rw [hv]
          simp only [Place.adr, f2, Nat.zero_mul, Nat.zero_add] at this
          rw [cell_row f4] at this
          simpa using this
        · rename_i hj
          rw [List.getElem?_eq_none (by omega)]
      have hr := run_append_room (P := P) w t o.type s.1 inf g1 g2 (φ b).blk n cap cs f4 ad' news.length c vs (by rw [hvl, g3]) hcl hone hroom (by rw [g3]; omega)
      rw [g3, htake] at hr
      generalize hnew : (vs0 ++ vs ++ cs.toList.drop (n * s.2.1 + vs.length)).toArray = new at hr
      have hsize : new.size = cs.size := by rw [← hnew]; simp; omega
      have hg : w.grownBy (w.setRow (φ b).blk new) (some (φ b).blk) := ⟨rfl, rfl, rfl, by simp, fun c' _ hc' => setRow_other w _ c' _ (fun e => hc' (by rw [e]))⟩
      have hp' : HRep (updP φ H.n (φ b)) B ((H.kill b).push ⟨s.1, s.2.1, false, false, k.els.take n ++ news⟩) (w.setRow (φ b).blk new) := by
        refine ((hH.kill b).other hg (fun g hg' => by cases hg'; exact ⟨f1, fo⟩) (fun g hg' b' k' hk' hr' hc' => by cases hg'; exact hfresh hp b' k' hk' hr' hc')).push rfl
          (BCells.of_row (setRow_heap w _ cs _ _ _ f4) f2 (by rw [hbc.esz, h5]) (by rw [hlen]; omega) (by rw [← hnew]; exact flat_rep hel hrr _)) (fun _ => ⟨f1, fo, f2, f3, new, (0, 0), setRow_heap w _ cs _ _ _ f4, by rw [hsize, f5], fun _ => rfl, by omega⟩) hfresh
      refine EffOk.of_value (hrun (by rw [hx, hy]; exact hr)) hK ⟨Nat.lt_succ_self _, _, _, rfl, hroom, ?_, fun _ => ?_⟩ hp' ⟨⟨rfl, rfl, rfl, by simp, fun c' hc' => setRow_other w _ c' _ (by omega)⟩, fun c' hc' => setRow_other w _ c' _ fun e => fo (e ▸ hc')⟩ (Nat.le_succ _) updP_old
      · rw [updP_new]; exact hcap
      · rw [updP_new, hadr]
    · have hge := grownCap_ge w (n + news.length) cap s.1
      have hcm := grownCap_le_maxLen w (n + news.length) cap s.1 (by omega)
      have hr : (Builtin.append_ #[t, t] o.type #[.slice ad n cap, .slice (some ad') news.length c]).run P w =
          .ok (.slice (some ⟨w.heap.size, 0, none⟩) (n + news.length) (grownCap w (n + news.length) cap s.1))
            (w.drew.alloc (.cells ((vs0 ++ vs) ++ (Builtin.zeroCells zv.cells (grownCap w (n + news.length) cap s.1 - (n + news.length))).toList).toArray s.1)) := by
        cases ad with
        | none =>
          have hc0 : cap = 0 := by
            rcases Nat.eq_zero_or_pos cap with h0 | h0
            · exact h0
            · have := had h0; cases this
          have hn0 : n = 0 := by omega
          subst hc0; subst hn0
          have hv0 : vs0 = [] := List.eq_nil_of_length_eq_zero (by rw [r2, Nat.zero_mul])
          subst hv0
          have := run_append_nil (P := P) w t o.type s.1 inf zv g1 g2 e2 ad' news.length c vs (by rw [hvl, g3]) hcl (by omega) (by omega) (by rw [g4]; rw [Nat.zero_add] at hb1; omega)
          simp only [Nat.zero_add] at this ⊢
          rw [this]; congr 4; simp
        | some a0 =>
          have := run_append_grow (P := P) w t o.type s.1 inf zv g1 g2 e2 a0 n cap vs0 (by rw [r2, g3]) (fun j v hv => by
              by_cases h0 : 0 < cap
              · have := had h0
                cases this
                rw [adr_add, Nat.zero_add]
                exact r3 j v hv
              · have hn0 : n = 0 := by omega
                have hv0 : vs0 = [] := List.eq_nil_of_length_eq_zero (by rw [r2, hn0, Nat.zero_mul])
                subst hv0; simp at hv) ad' news.length c vs (by rw [hvl, g3]) hcl (by omega) (by omega) (growslice_fits (by omega) (by rw [g4]; exact hb1))
          rw [this]; congr 4; simp
      generalize hcap' : grownCap w (n + news.length) cap s.1 = cap' at hr hge hcm
      have hp' := HRep.row (w := w) (hH.kill b) (k := ⟨s.1, s.2.1, false, false, k.els.take n ++ news⟩) (cs := ((vs0 ++ vs) ++ (Builtin.zeroCells zv.cells (cap' - (n + news.length))).toList).toArray)
        (cap := cap') (w' := w.drew.alloc (.cells ((vs0 ++ vs) ++ (Builtin.zeroCells zv.cells (cap' - (n + news.length))).toList).toArray s.1)) (fz := (0, 0)) rfl
        (((Below.refl _ _).drew).alloc (Nat.le_refl _) _) (heap_alloc_new w.drew _) (by
          have : (n + news.length + (cap' - (n + news.length))) * s.2.1 = cap' * s.2.1 := by congr 1; omega
          rw [Nat.add_mul, Nat.add_mul] at this
          simp [size_zeroCells, hvl, r2, e3, g3]; omega) (by rw [hlen]; exact hge) hcm (fun _ => rfl) (by omega) (flat_rep hel hrr _)
      refine EffOk.of_value (hrun (by rw [hx, hy]; exact hr)) hK ⟨Nat.lt_succ_self _, _, _, rfl, hge, ?_, fun _ => ?_⟩ hp' (.of_below hH.size hH.tlt (((Below.refl _ _).drew).alloc (Nat.le_refl _) _)) (Nat.le_succ _) updP_old
      · show 0 + cap' ≤ (updP φ H.n _ H.n).cap
        rw [updP_new]; simp
      · show some _ = some ((updP φ H.n _ H.n).adr 0 0)
        rw [updP_new]; simp [Place.adr]

theorem e_append {o : Oper} {x y : Operand} {t t' : TypeId} {K : AV → AHeap → Prop} (ho : o.op = .call ⟨.builtin .append, ⟨[x, y]⟩, ⟨[t, t']⟩⟩) (hH : HRep φ B H w) (hF : FRep φ H.n F a.tmps)
    (h : aeff P H F (.call ⟨.builtin .append, ⟨[x, y]⟩, ⟨[t, t']⟩⟩) K) : EffOk P φ B H w a o K := by
  simp only [aeff] at h
  obtain ⟨rfl, h⟩ := h
  obtain ⟨s, hs, h⟩ := onv_iff.1 h
  obtain ⟨z, hz, hpos, h⟩ := onv_iff.1 h
  obtain ⟨xv, hxv, h⟩ := onv_iff.1 h
  obtain ⟨yv, hyv, h⟩ := onv_iff.1 h
  obtain ⟨news, hnews, hh⟩ := onv_iff.1 h
  obtain ⟨inf, g1, g2, g3, g4⟩ := slK_some hs
  obtain ⟨i', zv, e1, e2, e3, e4⟩ := zeroK_some hz
  rw [g2] at e1; cases e1
  have hex := eval_of hF hxv
  have hey := eval_of hF hyv
  obtain ⟨A, c, vs, hy, hnl, hnr, hvl, hcell⟩ := news_of hH hey hnews
  have hrun : ∀ {u : Value} {w' : World}, (Builtin.append_ #[t, t] o.type #[a.eval x, a.eval y]).run P w = .ok u w' → (execOp a.eval o).run P w = .ok (.value u) w' := fun hr => by
    simp only [execOp, ho, resolve, invoke, builtin, Sem.run_bind, Sem.run_pure, Result.andThen_ok, List.map_toArray, List.map_cons, List.map_nil, hr]
  clear h
  split at hh
  · obtain ⟨hb1, hb2, hK⟩ := hh
    exact append_nils hH hrun g1 g2 g3 g4 e2 e3 hy hnl hnr hvl hcell hex hb1 hb2 hK
  · obtain ⟨k, hk, h1, h2, h3, h4, h5, h6, hb1, hb2, hK⟩ := onv_iff.1 hh
    subst h1
    exact append_own hH hrun g1 g2 g3 g4 e2 e3 hy hnl hnr hvl hcell hex hk h2 h3 h4 h5 h6 hb1 hb2 hK
  · exact hh.elim

/-- copy, of elements of one cell, into an own block -/
theorem e_copy {o : Oper} {x y : Operand} {t t' : TypeId} {K : AV → AHeap → Prop} (ho : o.op = .call ⟨.builtin .copy, ⟨[x, y]⟩, ⟨[t, t']⟩⟩) (hH : HRep φ B H w) (hF : FRep φ H.n F a.tmps)
    (h : aeff P H F (.call ⟨.builtin .copy, ⟨[x, y]⟩, ⟨[t, t']⟩⟩) K) : EffOk P φ B H w a o K := by
  simp only [aeff] at h
  obtain ⟨s, hs, hs1, h⟩ := onv_iff.1 h
  obtain ⟨xv, hxv, h⟩ := onv_iff.1 h
  obtain ⟨yv, hyv, h⟩ := onv_iff.1 h
  obtain ⟨news, hnews, h⟩ := onv_iff.1 h
  obtain ⟨inf, g1, g2, g3, g4⟩ := slK_some hs
  have hex := eval_of hF hxv
  have hey := eval_of hF hyv
  obtain ⟨A, c, vs, hy, hnl, hnr, hvl, hcell⟩ := news_of hH hey hnews
  split at h
  · rename_i b i n _ _
    obtain ⟨k, hk, h1, h2, h3, h4, hK⟩ := onv_iff.1 h
    obtain ⟨hb, ad, cap, hx, hn, hcap, had⟩ := (show RepC φ H.n (.sl b i n) _ from hex)
    have hml : news.length ≠ 0 := by omega
    obtain ⟨ad', hA, hcl⟩ := hcell.resolve_left hml
    subst hA
    rw [Nat.mul_one] at hvl
    have hc := hH.cells b k hk
    have hcp : 0 < (φ b).cap := by have := hc.cap; omega
    have hown := hH.own b k hk h1 hcp
    obtain ⟨cs, fz, f1, f2, f3, f4⟩ := hown.row
    have hA := had (by omega)
    have hadr : (φ b).adr i 0 = ⟨(φ b).blk, i, none⟩ := by simp [Place.adr, hown.off, hc.esz, h2]
    rw [hadr] at hA
    subst hA
    have hsz : k.els.length ≤ cs.size := by rw [f2, hc.esz, h2, Nat.mul_one]; exact hc.cap
    have hm : (vs.take n).length = min news.length n := by simp only [List.length_take, hvl]; omega
    have hone : ∀ v ∈ vs.take n, v.oneCell' = true := fun v hv => hnr.one v (List.mem_of_mem_take hv)
    have hrun0 := run_copy_cells (P := P) w t t' o.type s.1 (φ b).blk i n cap ad' news.length c (vs.take n) g1 (by rw [g2]; simp [g3, hs1]) hm (fun j v hv => hcl j v (by
        rw [List.getElem?_take] at hv
        split at hv
        · exact hv
        · cases hv)) (fun j hj => by rw [cell_row f1, Array.getElem?_eq_getElem (by omega)]; rfl) (fun j hj => by
        simp only [World.frozen?, f1, Bool.and_eq_false_iff, decide_eq_false_iff_not]
        have := f4 (i + j) (by omega)
        omega) hone
    have hrun : (execOp a.eval o).run P w = .ok (.value (.int .i64 (min news.length n : Nat))) (w.setCells (φ b).blk i (vs.take n)) := by
      simp only [execOp, ho, resolve, invoke, builtin, Sem.run_bind, Sem.run_pure, Result.andThen_ok, List.map_toArray, List.map_cons, List.map_nil, hx, hy, hrun0, hm, goInt]
    obtain ⟨q1, q2, q3, q4, q5, q6⟩ := setCells_block (φ b).blk (vs.take n) i w cs k.ty fz f1
    have hkept : Kept B w (w.setCells (φ b).blk i (vs.take n)) := ⟨⟨q4, q5, q6, Nat.le_of_eq q3.symm, fun c hc' => q2 c (by have := hown.base; omega)⟩, fun c hc' => q2 c fun e => hown.out (e ▸ hc')⟩
    have hel : (k.els.take i ++ (news.take n ++ k.els.drop (i + min news.length n))).length = k.els.length := by
      simp only [List.length_append, List.length_take, List.length_drop]; omega
    refine EffOk.of_value (φ' := φ) (H' := H.set b { k with els := k.els.take i ++ (news.take n ++ k.els.drop (i + min news.length n)) }) hrun hK rfl
      (hH.stored hk h1 hcp rfl rfl h1 q3 q2 q1 ⟨cs, f1, over_size _ _ _⟩ hkept ?_) hkept (Nat.le_refl _) (fun _ _ => rfl)
    refine BCells.of_row q1 hown.off (by rw [hc.esz]) (by show (k.els.take i ++ _).length ≤ _; rw [hel]; exact hc.cap) ?_
    have hcr := CellsRep.of_b f1 hown.off hc
    rw [h2] at hcr
    show CellsRep φ H.n k.esz (k.els.take i ++ (news.take n ++ k.els.drop (i + min news.length n))) _
    rw [h2]
    have hnw := flat_rep (esz := 1) hnl hnr []
    rw [List.append_nil] at hnw
    intro q e hq
    by_cases c1 : q < i
    · rw [List.getElem?_append_left (by simp only [List.length_take]; omega), List.getElem?_take, if_pos c1] at hq
      obtain ⟨l1, l2⟩ := hcr q e hq
      refine ⟨l1, fun j x' hx' => ?_⟩
      obtain ⟨v, v1, v2⟩ := l2 j x' hx'
      have hj0 : j < 1 := by have := (List.getElem?_eq_some_iff.1 hx').1; omega
      exact ⟨v, by rw [over_out _ _ _ _ (by omega)]; exact v1, v2⟩
    · have hti : (k.els.take i).length = i := by simp only [List.length_take]; omega
      rw [List.getElem?_append_right (by omega), hti] at hq
      by_cases c2 : q - i < min news.length n
      · rw [List.getElem?_append_left (by simp only [List.length_take]; omega), List.getElem?_take, if_pos (by omega)] at hq
        obtain ⟨l1, l2⟩ := hnw (q - i) e hq
        refine ⟨l1, fun j x' hx' => ?_⟩
        obtain ⟨v, v1, v2⟩ := l2 j x' hx'
        have hj0 : j = 0 := by have := (List.getElem?_eq_some_iff.1 hx').1; omega
        subst hj0
        refine ⟨v, ?_, v2⟩
        have v3 : (vs.take n)[q - i]? = some v := by
          rw [List.getElem?_take, if_pos (by omega)]
          simpa using v1
        have := over_in (vs.take n) cs i (q - i) v v3 (by omega)
        rw [← this]; congr 1; omega
      · rw [List.getElem?_append_right (by simp only [List.length_take]; omega), List.getElem?_drop, List.length_take] at hq
        have hq' : k.els[q]? = some e := by rw [← hq]; congr 1; omega
        obtain ⟨l1, l2⟩ := hcr q e hq'
        refine ⟨l1, fun j x' hx' => ?_⟩
        obtain ⟨v, v1, v2⟩ := l2 j x' hx'
        have hj0 : j < 1 := by have := (List.getElem?_eq_some_iff.1 hx').1; omega
        exact ⟨v, by rw [over_out _ _ _ _ (by omega)]; exact v1, v2⟩
  · exact h.elim

theorem rept_append {n : Nat} : ∀ {xs ys : List AV} {vs us : List Value}, RepT φ n xs vs → RepT φ n ys us → RepT φ n (xs ++ ys) (vs ++ us)
  | [], _, [], _, _, h => h
  | _ :: _, _, _ :: _, _, h, h' => ⟨h.1, rept_append h.2 h'⟩
  | [], _, _ :: _, _, h, _ => h.elim
  | _ :: _, _, [], _, h, _ => h.elim
theorem rept_caps {n : Nat} : ∀ {bs : List Nat}, (∀ b ∈ bs, b < n) → RepT φ n (bs.map fun b => .c (.ptr b 0 0)) (bs.map fun b => ptrOf (φ b))
  | [], _ => trivial
  | b :: r, h => ⟨⟨h b (by simp), rfl⟩, rept_caps fun c hc => h c (by simp [hc])⟩

theorem e_call {o : Oper} {f : Operand} {args : Array Operand} {ts : Array TypeId} {K : AV → AHeap → Prop} (ho : o.op = .call ⟨.value f, args, ts⟩) (hH : HRep φ B H w) (hF : FRep φ H.n F a.tmps)
    (h : aeff P H F (.call ⟨.value f, args, ts⟩) K) : EffOk P φ B H w a o K := by
  simp only [aeff] at h
  obtain ⟨fv, hf, h⟩ := onv_iff.1 h
  have he := eval_of hF hf
  split at h
  · rename_i g caps
    obtain ⟨hcl, hx⟩ := (show RepC φ H.n (.fn g caps) _ from he)
    obtain ⟨vs, hvs, hent, hcall⟩ := onv_iff.1 h
    have hargs := evals_of hF hvs
    intro next Q hnext
    unfold Oper.wp
    have hrun : (execOp a.eval o).run P w = .ok (.enter g (args.toList.map a.eval ++ caps.map fun b => ptrOf (φ b)).toArray) w := by
      have e1 : (#[] ++ args.map a.eval) ++ (caps.map fun b => ptrOf (φ b)).toArray = (args.toList.map a.eval ++ caps.map fun b => ptrOf (φ b)).toArray := by
        cases args; simp
      simp only [execOp, ho, resolve, hx, Deferred.ofValue, Sem.run_bind, Sem.run_pure, Result.andThen_ok, invoke, e1]
      exact hent _ _
    rw [hrun, Oper.upon_enter]
    refine (hcall φ B w _ hH (rept_append hargs (rept_caps hcl))).mono ?_
    rintro e w' ⟨r, u, φ', H', rfl, h1, h2, h3, h4, h5, h6⟩
    exact hnext r u φ' H' w' h6 h1 h2 h3 h4 h5
  · exact h.elim

/-- SOUNDNESS of the operations that make or write memory, and of calls -/
theorem aeff_sound {o : Oper} {op : Op} {K : AV → AHeap → Prop} (ho : o.op = op) (hH : HRep φ B H w) (hF : FRep φ H.n F a.tmps) (h : aeff P H F op K) : EffOk P φ B H w a o K := by
  cases op with
  | alloc t => exact e_alloc ho hH h
  | box t x => exact e_box ho hH hF h
  | store t x y => exact e_store ho hH hF h
  | buildSlice t n parts => exact e_buildSlice ho hH hF h
  | makeSlice t l c => exact e_makeSlice ho hH hF h
  | convert s d x => exact e_bytes ho hH hF h
  | call c =>
    obtain ⟨callee, ⟨args⟩, ⟨ts⟩⟩ := c
    cases callee with
    | builtin b =>
      cases b with
      | append =>
        match args, ts, h, ho with
        | [x, y], [t, t'], h, ho => exact e_append ho hH hF h
        | [], _, h, _ => exact h.elim
        | [_], _, h, _ => exact h.elim
        | [_, _], [], h, _ => exact h.elim
        | [_, _], [_], h, _ => exact h.elim
        | [_, _], _ :: _ :: _ :: _, h, _ => exact h.elim
        | _ :: _ :: _ :: _, _, h, _ => exact h.elim
      | copy =>
        match args, ts, h, ho with
        | [x, y], [t, t'], h, ho => exact e_copy ho hH hF h
        | [], _, h, _ => exact h.elim
        | [_], _, h, _ => exact h.elim
        | [_, _], [], h, _ => exact h.elim
        | [_, _], [_], h, _ => exact h.elim
        | [_, _], _ :: _ :: _ :: _, h, _ => exact h.elim
        | _ :: _ :: _ :: _, _, h, _ => exact h.elim
      | _ => exact h.elim
    | value f => exact e_call ho hH hF h
    | invoke _ _ => exact h.elim
  | _ => exact h.elim

end
end Go.Proofs.YtafenginfojcmaaGreatDoor
