/- The abstract machine, part F: soundness of the operations that leave the heap alone, the rest. No program is named here. -/
import Derived.Test.YtafenginfojcmaaGreatDoorAbsE
import Derived.Laws.StructEq
namespace Go.Proofs.YtafenginfojcmaaGreatDoor
open Go.RowKit

section
variable {P : Program} {φ : Nat → Place} {H : AHeap} {F : AFrame} {a : Act} {B : Bd} {w : World}

theorem dK_int {t : TypeId} {k : IntKind} (h : dK P t = some (.int k)) : P.underlying t = some (.int k) := by
  unfold dK at h
  split at h <;> first | (simp at h; done) | skip
  · simp at h; subst h; assumption
  · split at h <;> simp at h
theorem dK_bytes {t e : TypeId} (h : dK P t = some (.bytes e)) : P.underlying t = some (.slice e) ∧ P.underlying e = some (.int .u8) := by
  unfold dK at h
  split at h <;> first | (simp at h; done) | skip
  split at h <;> simp at h
  subst h
  exact ⟨by assumption, by assumption⟩
theorem dK_slc {t : TypeId} (h : dK P t = some .slc) : ∃ e, P.underlying t = some (.slice e) := by
  unfold dK at h
  split at h <;> first | (simp at h; done) | skip
  exact ⟨_, by assumption⟩
theorem dK_any {t : TypeId} {d : DK} (h : dK P t = some d) : ∃ e, P.underlying t = some e := by
  cases hu : P.underlying t with
  | none => unfold dK at h; rw [hu] at h; simp at h
  | some e => exact ⟨e, rfl⟩

theorem bytes_row {φ : Nat → Place} {n : Nat} {p : Place} {k : ABlk} {w : World} (h : BCells φ n p k w) (he : k.esz = 1) : ∀ (m i : Nat) (l : List UInt8), i + m ≤ k.els.length → bytesOf ((k.els.drop i).take m) = some l →
    ∃ ns : List Int, ns.length = m ∧ (ns.map fun x => UInt8.ofNat x.toNat) = l ∧ ∀ (j : Nat) (v : Value), (ns.map (Value.int .u8))[j]? = some v → w.cell? (p.adr i j) = some v
  | 0, _, l, _, hl => ⟨[], rfl, by simp [bytesOf] at hl; simp [hl], by simp⟩
  | m + 1, i, l, hi, hl => by
    have hlt : i < k.els.length := by omega
    rw [List.drop_eq_getElem_cons hlt, List.take_succ_cons] at hl
    have he' : k.els[i]? = some k.els[i] := List.getElem?_eq_getElem hlt
    generalize k.els[i] = e at *
    unfold bytesOf at hl
    split at hl
    · rename_i heq; cases heq
    · rename_i x r heq
      cases heq
      simp only [Option.map_eq_some_iff] at hl
      obtain ⟨l', h1, rfl⟩ := hl
      obtain ⟨ns, h2, h3, h4⟩ := bytes_row h he m (i + 1) l' (by omega) h1
      obtain ⟨v, hv, hr⟩ := h.cell i _ he' 0 _ rfl
      refine ⟨x :: ns, by simp [h2], by simp [h3], fun j u hu => ?_⟩
      cases j with
      | zero =>
        simp at hu; subst hu
        rw [hv, show v = .int .u8 x from hr]
      | succ j =>
        have := h4 j u (by simpa using hu)
        rw [← this]
        congr 1
        simp only [Place.adr, h.esz, he, Addr.mk.injEq, true_and, and_true]
        omega
    · simp at hl

theorem fold_push : ∀ (ns : List Int) (s : ByteArray), ns.foldl (fun r n => r.push (UInt8.ofNat n.toNat)) s = ⟨(s.data.toList ++ ns.map fun x => UInt8.ofNat x.toNat).toArray⟩
  | [], s => by cases s; simp
  | x :: r, s => by
    rw [List.foldl_cons, fold_push r]
    simp [ByteArray.push]

theorem y_convert {o : Oper} {s d : TypeId} {x : Operand} {K : AV → Prop} (ho : o.op = .convert s d x) (hH : HRep φ B H w) (hF : FRep φ H.n F a.tmps) (h : apure P H F (.convert s d x) K) :
    ∃ v u, K v ∧ RepV φ H.n v u ∧ Yields P a o w u := by
  simp only [apure] at h
  obtain ⟨v, hv, h⟩ := onv_iff.1 h
  obtain ⟨sk, hs, h⟩ := onv_iff.1 h
  obtain ⟨dk, hd, h⟩ := onv_iff.1 h
  have he := eval_of hF hv
  split at h
  · have h1 := dK_int hs
    have h2 := dK_int hd
    refine ⟨_, _, h, rfl, fun w' _ => ?_⟩
    simp [execOp, ho, show a.eval x = .int _ _ from he, convert, run_underlying h1, run_underlying h2, Conv.intToInt]
  · have hx := (show RepC φ H.n (.str _) _ from he)
    have h1 := dK_str hs
    have h2 := dK_str hd
    refine ⟨_, _, h, rfl, fun w' _ => ?_⟩
    have hx' := (show a.eval x = .string _ from hx)
    simp [execOp, ho, hx', convert, run_underlying h1, run_underlying h2]
  · obtain ⟨hb, ad, cap, hx, hn, hcap, had⟩ := (show RepC φ H.n (.sl _ _ _) _ from he)
    obtain ⟨k, hk, h⟩ := onv_iff.1 h
    obtain ⟨l, hl, h1, h2, h⟩ := onv_iff.1 h
    obtain ⟨g1, g2⟩ := dK_bytes hs
    have g3 := dK_str hd
    obtain ⟨ns, e1, e2, e3⟩ := bytes_row (hH.cells _ k hk) h2 _ _ l h1 hl
    refine ⟨_, _, h, rfl, fun w' hb' => ?_⟩
    cases ad with
    | none =>
      have h0 : cap = 0 := by
        rcases Nat.eq_zero_or_pos cap with h0 | h0
        · exact h0
        · have := had h0; cases this
      have hns : ns = [] := List.eq_nil_of_length_eq_zero (by omega)
      subst hns
      simp at e2; subst e2
      simp [execOp, ho, hx, convert, run_underlying g1, run_underlying g2, run_underlying g3, Conv.bytesToString]
      rfl
    | some ad =>
      have hload : (loadCells ad ns.length).run P w' = .ok (ns.map (Value.int .u8)).toArray w' := by
        have := run_loadCells_list (P := P) w' ad (ns.map (Value.int .u8)) (fun j v hv => by
          have hj : j < ns.length := by
            have := (List.getElem?_eq_some_iff.1 hv).1
            simpa using this
          have hA := had (by omega)
          cases hA
          rw [adr_add, Nat.zero_add]
          exact cell_keep hb' (e3 j v hv))
        simpa using this
      rw [e1] at hload
      have hr := run_bytesToString (P := P) w' ad _ cap ns hload
      rw [fold_push, e2] at hr
      simp only [execOp, ho, hx, Sem.run_bind, run_convert_bytes_string w' s d _ _ _ _ g1 g2 g3, hr, Result.andThen_ok, Sem.run_pure]
      simp [ByteArray.empty, ByteArray.emptyWithCapacity]
      rfl
  · exact h.elim

theorem y_field {o : Oper} {t : TypeId} {x : Operand} {f : Nat} {K : AV → Prop} (ho : o.op = .field t x f) (hF : FRep φ H.n F a.tmps) (h : apure P H F (.field t x f) K) :
    ∃ v u, K v ∧ RepV φ H.n v u ∧ YieldsAll P a o u := by
  simp only [apure] at h
  obtain ⟨v, hv, h⟩ := onv_iff.1 h
  have he := eval_of hF hv
  split at h
  · rename_i xs
    obtain ⟨vs, hx, hr⟩ := (show Rep1 φ H.n (.agg xs) _ from he)
    obtain ⟨off, h1, h⟩ := onv_iff.1 h
    obtain ⟨y, hy, hK⟩ := onv_iff.1 h
    obtain ⟨fs, g, g1, g2, g3, rfl⟩ := fldK_some h1
    obtain ⟨d, inf, e1, e2, e3, e4⟩ := underlying_of_cellT g3
    obtain ⟨u, hu, hr'⟩ := hr.get _ y hy
    refine ⟨.c y, _, hK, hr', fun w' => ?_⟩
    have hagg : (isAgg g.type).run P w' = .ok false w' := by
      unfold isAgg
      rw [Sem.run_bind, run_underlying e1 w']
      cases d <;> simp_all
    simp [execOp, ho, hx, Instr.field, run_underlying g1, g2, asAgg, part, hagg, hu]
  · exact h.elim

theorem y_index {o : Oper} {t : TypeId} {x ix : Operand} {K : AV → Prop} (ho : o.op = .index t x ix) (hF : FRep φ H.n F a.tmps) (h : apure P H F (.index t x ix) K) :
    ∃ v u, K v ∧ RepV φ H.n v u ∧ YieldsAll P a o u := by
  simp only [apure] at h
  obtain ⟨v, hv, h⟩ := onv_iff.1 h
  obtain ⟨m, hm, h⟩ := onv_iff.1 h
  have he := eval_of hF hv
  obtain ⟨ik, hi⟩ := asI_of hF hm
  split at h
  · rename_i s _
    have hx : a.eval x = .string ⟨s.toArray⟩ := he
    obtain ⟨h1, h2, h⟩ := h
    obtain ⟨c, hc, h⟩ := onv_iff.1 h
    refine ⟨_, _, h, rfl, fun w' => ?_⟩
    have hu := dK_str h1
    have hlt : m.toNat < s.length := (List.getElem?_eq_some_iff.1 hc).1
    have hg : (⟨s.toArray⟩ : ByteArray)[m.toNat]? = some c := by
      rw [getElem?_pos (⟨s.toArray⟩ : ByteArray) m.toNat hlt]
      exact congrArg some (List.getElem?_eq_some_iff.1 hc).2
    simp [execOp, ho, hx, hi, Instr.index, asIntOf, run_underlying hu, h2, hg]
  · rename_i xs _
    obtain ⟨vs, hx, hr⟩ := (show Rep1 φ H.n (.agg xs) _ from he)
    obtain ⟨n, hn, h1, h2, h3, h⟩ := onv_iff.1 h
    obtain ⟨y, hy, h⟩ := onv_iff.1 h
    obtain ⟨e, inf, g1, g2, g3, g4⟩ := tyK_arr (arrK_some hn)
    obtain ⟨d, inf', e1, e2, e3, e4⟩ := underlying_of_cellT g4
    obtain ⟨u, hu, hr'⟩ := hr.get _ y hy
    refine ⟨.c y, _, h, hr', fun w' => ?_⟩
    have hagg : (isAgg e).run P w' = .ok false w' := by
      unfold isAgg
      rw [Sem.run_bind, run_underlying e1 w']
      cases d <;> simp_all
    simp [execOp, ho, hx, hi, Instr.index, asIntOf, run_underlying g1, part, hagg, sizeOf, typeInfo, e2, e3, h2, h3, hu]
  · exact h.elim

theorem fldKind_agg {t : TypeId} {k : Nat} (h : fldKind P t = some k) (w' : World) : (isAgg t).run P w' = .ok false w' := by
  unfold fldKind at h
  split at h
  · rename_i hu; unfold isAgg; rw [Sem.run_bind, run_underlying hu w']; rfl
  · rename_i hu; unfold isAgg; rw [Sem.run_bind, run_underlying hu w']; rfl
  · rename_i hu; unfold isAgg; rw [Sem.run_bind, run_underlying hu w']; rfl
  · cases h
theorem run_fields {φ : Nat → Place} {n : Nat} (d : Nat) (w' : World) (vs us : List Value) : ∀ (fs : List Field) (j : Nat) (ks : List Nat) (xs ys : List AC) (b : Bool), ((fs.zipIdx j).all fun x => x.1.name != "_" && x.1.offset == x.2) = true →
    (fs.mapM fun f => fldKind P f.type) = some ks → okEq ks xs = true → okEq ks ys = true → eqACs xs ys = some b → RepL φ n xs (vs.drop j) → RepL φ n ys (us.drop j) → (Op.eqFields (d + 1) vs.toArray us.toArray fs).run P w' = .ok b w'
  | [], j, ks, xs, ys, b, _, hk, hx, hy, hb, _, _ => by
    simp at hk; subst hk
    cases xs with
    | nil => cases ys with
      | nil => simp [eqACs] at hb; subst hb; simp [Op.eqFields]
      | cons _ _ => simp [okEq] at hy
    | cons _ _ => simp [okEq] at hx
  | f :: fs, j, ks, xs, ys, b, hn, hk, hx, hy, hb, hr, hr' => by
    simp only [List.zipIdx_cons, List.all_cons, Bool.and_eq_true, bne_iff_ne, ne_eq, beq_iff_eq] at hn
    obtain ⟨⟨hn1, hn2⟩, hn3⟩ := hn
    simp only [List.mapM_cons, Option.bind_eq_bind, Option.bind_eq_some_iff, Option.pure_def, Option.some.injEq] at hk
    obtain ⟨k, hk1, ks', hk2, rfl⟩ := hk
    have hagg := fldKind_agg (P := P) hk1 w'
    have key : ∀ (x y : AC) (xs' ys' : List AC) (c : Bool), xs = x :: xs' → ys = y :: ys' → (∀ v u, RepC φ n x v → RepC φ n y u → (Op.equalIn (d + 1) f.type v u).run P w' = .ok c w') → okEq ks' xs' = true → okEq ks' ys' = true → (∃ r, eqACs xs' ys' = some r ∧ (c && r) = b) →
        (Op.eqFields (d + 1) vs.toArray us.toArray (f :: fs)).run P w' = .ok b w' := by
      rintro x y xs' ys' c rfl rfl he hx' hy' ⟨r, hr1, hr2⟩
      cases hv : vs.drop j with
      | nil => rw [hv] at hr; exact hr.elim
      | cons v vr => cases hu : us.drop j with
        | nil => rw [hu] at hr'; exact hr'.elim
        | cons u ur =>
          rw [hv] at hr; rw [hu] at hr'
          have hv0 : vs[j]? = some v := by rw [← List.head?_drop, hv]; rfl
          have hu0 : us[j]? = some u := by rw [← List.head?_drop, hu]; rfl
          have hv1 : vs.drop (j + 1) = vr := by rw [← List.drop_drop, hv]; rfl
          have hu1 : us.drop (j + 1) = ur := by rw [← List.drop_drop, hu]; rfl
          have ih := run_fields d w' vs us fs (j + 1) ks' xs' ys' r hn3 hk2 hx' hy' hr1 (by rw [hv1]; exact hr.2) (by rw [hu1]; exact hr'.2)
          have hpv : (part f.type vs.toArray f.offset).run P w' = .ok v w' := by simp [part, hagg, hn2, hv0]
          have hpu : (part f.type us.toArray f.offset).run P w' = .ok u w' := by simp [part, hagg, hn2, hu0]
          simp only [Op.eqFields, if_pos hn1, Sem.run_bind, hpv, hpu, Result.andThen_ok, he v u hr.1 hr'.1, Sem.run_ite]
          cases c with
          | true => simpa [ih] using hr2
          | false => simpa using hr2
    match k, xs, ys, hx, hy, hb with
    | 0, .int k1 a :: xs', .int k2 c :: ys', hx, hy, hb =>
      simp only [eqACs] at hb
      split at hb
      · rename_i hkk
        subst hkk
        obtain ⟨r, h1, h2⟩ := Option.map_eq_some_iff.1 hb
        refine key _ _ xs' ys' (decide (a = c)) rfl rfl (fun v u hv hu => ?_) hx hy ⟨r, h1, h2⟩
        rw [show v = _ from hv, show u = _ from hu]
        unfold fldKind at hk1
        split at hk1
        · rename_i hu; rw [run_equalIn_int w' d _ _ _ _ _ hu]; congr 1
        · cases hk1
        · cases hk1
        · cases hk1
      · cases hb
    | 1, .str a :: xs', .str c :: ys', hx, hy, hb =>
      simp only [eqACs] at hb
      obtain ⟨r, h1, h2⟩ := Option.map_eq_some_iff.1 hb
      refine key _ _ xs' ys' (decide (a = c)) rfl rfl (fun v u hv hu => ?_) hx hy ⟨r, h1, h2⟩
      rw [show v = _ from hv, show u = _ from hu]
      unfold fldKind at hk1
      split at hk1
      · cases hk1
      · rename_i hu; rw [run_equalIn_string w' d _ _ _ hu]; congr 1; rw [ByteArray.toList_eq, ByteArray.toList_eq, Bool.eq_iff_iff]; simp
      · cases hk1
      · cases hk1
    | 2, .bool a :: xs', .bool c :: ys', hx, hy, hb =>
      simp only [eqACs] at hb
      obtain ⟨r, h1, h2⟩ := Option.map_eq_some_iff.1 hb
      refine key _ _ xs' ys' (a == c) rfl rfl (fun v u hv hu => ?_) hx hy ⟨r, h1, h2⟩
      rw [show v = _ from hv, show u = _ from hu]
      unfold fldKind at hk1
      split at hk1
      · cases hk1
      · cases hk1
      · rename_i hu; rw [run_equalIn_bool' w' d _ _ _ hu]
      · cases hk1

theorem toList_mk (s : List UInt8) : (⟨s.toArray⟩ : ByteArray).toList = s := by
  rw [ByteArray.toList_eq]

theorem y_binOp {o : Oper} {op : BinOp} {t t' : TypeId} {x y : Operand} {K : AV → Prop} (ho : o.op = .binOp op t x y t') (hF : FRep φ H.n F a.tmps) (h : apure P H F (.binOp op t x y t') K) :
    ∃ v u, K v ∧ RepV φ H.n v u ∧ YieldsAll P a o u := by
  simp only [apure] at h
  obtain ⟨v, hv, h⟩ := onv_iff.1 h
  obtain ⟨u, hu, h⟩ := onv_iff.1 h
  have he := eval_of hF hv
  have hf := eval_of hF hu
  have bt : dK P t = some .bool → P.underlying t = some .bool := fun h => by
    unfold dK at h
    split at h <;> first | (cases h; done) | skip
    · split at h <;> cases h
    · assumption
  have stt : slcT (dK P t) = true → ∃ e, P.underlying t = some (.slice e) := fun h => by
    unfold dK at h
    split at h <;> first | (cases h; done) | skip
    exact ⟨_, by assumption⟩
  have nilc : nilOp y = true → a.eval y = .slice none 0 0 := fun h => by
    unfold nilOp at h
    split at h
    · rfl
    · cases h
  have nile : ∀ (n : Nat) (p : Option Addr) (m c : Nat) (K' : AC → Prop), a.eval x = .slice p m c → (n = 0 ∨ p.isNone = false) → a.eval y = .slice none 0 0 → slcT (dK P t) = true → anil op n K' →
      ∃ b : Bool, K' (.bool b) ∧ YieldsAll P a o (.bool b) := fun n p m c K' hx hp hy hs h => by
    obtain ⟨e, hu⟩ := stt hs
    have hg : ∀ w', (eqGuard op t x y (.slice p m c) (.slice none 0 0)).run P w' = .ok () w' := fun w' => by
      unfold eqGuard
      cases op <;> simp
    have heq : ∀ w', (Op.equal t (.slice p m c) (.slice none 0 0)).run P w' = .ok p.isNone w' := fun w' => by
      unfold Op.equal Op.maxDepth Op.equalIn
      rw [Sem.run_bind, run_underlying hu w']
      cases p <;> simp
    unfold anil at h
    split at h
    · refine ⟨p.isNone, ?_, fun w' => ?_⟩
      · cases hq : p.isNone with
        | false => exact h.1
        | true => exact h.2 (hp.elim id fun h0 => by rw [hq] at h0; cases h0)
      · simp [execOp, ho, hx, hy, hg, binOp, heq]
    · refine ⟨!p.isNone, ?_, fun w' => ?_⟩
      · cases hq : p.isNone with
        | false => exact h.1
        | true => exact h.2 (hp.elim id fun h0 => by rw [hq] at h0; cases h0)
      · simp [execOp, ho, hx, hy, hg, binOp, heq]
    · exact h.elim
  unfold abinT at h
  split at h
  · rename_i m n _
    have hx : a.eval x = .bool m := he
    have hy : a.eval y = .bool n := hf
    obtain ⟨ht, h⟩ := h
    have hu := bt ht
    have hg : ∀ w', (eqGuard op t x y (.bool m) (.bool n)).run P w' = .ok () w' := fun w' => by
      unfold eqGuard
      cases op <;> simp
    have heq : ∀ w', (Op.equal t (.bool m) (.bool n)).run P w' = .ok (m == n) w' := fun w' => by
      unfold Op.equal Op.maxDepth Op.equalIn
      rw [Sem.run_bind, run_underlying hu w']
      simp
    unfold abool at h
    split at h
    · exact ⟨_, _, h, rfl, fun w' => by simp [execOp, ho, hx, hy, hg, binOp, heq]⟩
    · exact ⟨_, _, h, rfl, fun w' => by simp [execOp, ho, hx, hy, hg, binOp, heq]⟩
    · exact h.elim
  · rename_i b i n _
    obtain ⟨h1, h2, h⟩ := h
    obtain ⟨_, p, cap, hx, h3, h4, h5⟩ := he
    obtain ⟨b', hk, hy⟩ := nile n p n cap _ hx (by
      rcases Nat.eq_zero_or_pos n with h0 | h0
      · exact .inl h0
      · rw [h5 (by omega)]; exact .inr rfl) (nilc h1) h2 h
    exact ⟨_, _, hk, rfl, hy⟩
  · rename_i _
    obtain ⟨h1, h2, h⟩ := h
    obtain ⟨p, hx⟩ := he
    obtain ⟨b', hk, hy⟩ := nile 0 p 0 0 _ hx (.inl rfl) (nilc h1) h2 h
    exact ⟨_, _, hk, rfl, hy⟩
  · rename_i xs ys _
    obtain ⟨ks, hks, o1, o2, h⟩ := onv_iff.1 h
    obtain ⟨b, hb, h⟩ := onv_iff.1 h
    obtain ⟨vs, hx, hr⟩ := (show Rep1 φ H.n (.agg xs) _ from he)
    obtain ⟨us, hy, hr'⟩ := (show Rep1 φ H.n (.agg ys) _ from hf)
    unfold eqKs at hks
    split at hks
    · rename_i fs hu
      split at hks
      · rename_i hc
        obtain ⟨c1, c2, c3⟩ := hc
        have hfo : P.fieldsOf t = fs := by unfold Program.fieldsOf; rw [hu]
        have heq : ∀ w', (Op.equalIn 10000 t (.agg vs.toArray) (.agg us.toArray)).run P w' = .ok b w' := fun w' => by
          rw [run_equalIn_struct w' 9999 t _ _ (by rw [hfo]; exact hu) c1, hfo]
          exact run_fields 9998 w' vs us fs.toList 0 ks xs ys b c3 hks o1 o2 hb hr hr'
        have hg : ∀ w', (eqGuard op t x y (.agg vs.toArray) (.agg us.toArray)).run P w' = .ok () w' := fun w' => run_eqGuard_agg w' op t x y _ _ c2
        unfold eqB at h
        split at h
        · exact ⟨_, _, h, rfl, fun w' => by simp only [execOp, ho, hx, hy, Sem.run_bind, hg, Result.andThen_ok, run_eql_struct, heq, Sem.run_pure]⟩
        · exact ⟨_, _, h, rfl, fun w' => by simp only [execOp, ho, hx, hy, Sem.run_bind, hg, Result.andThen_ok, run_neq_struct, heq, Sem.run_pure]⟩
        · exact h.elim
      · cases hks
    · cases hks
  rename_i g1 g2 g3 g4
  clear g1 g2 g3 g4
  unfold abin at h
  split at h
  · rename_i k m k' n _
    have hx : a.eval x = .int k m := he
    have hy : a.eval y = .int k' n := hf
    have hg : ∀ w', (eqGuard op t x y (.int k m) (.int k' n)).run P w' = .ok () w' := fun w' => by
      unfold eqGuard
      cases op <;> simp
    split at h
    · unfold ashift at h
      split at h
      · obtain ⟨h0, h⟩ := h
        refine ⟨_, _, h, rfl, fun w' => ?_⟩
        have h0' : ¬ n < 0 := by omega
        simp [execOp, ho, hx, hy, hg, binOp, Op.shift, h0']
      · obtain ⟨h0, h⟩ := h
        refine ⟨_, _, h, rfl, fun w' => ?_⟩
        have h0' : ¬ n < 0 := by omega
        simp [execOp, ho, hx, hy, hg, binOp, Op.shift, h0']
      · exact h.elim
    · obtain ⟨rfl, h⟩ := h
      have hbe : (m == n) = decide (m = n) := by rw [Bool.eq_iff_iff]; simp
      unfold aint at h
      split at h <;> first | exact h.elim | skip
      all_goals first
        | (obtain ⟨h0, h⟩ := h; refine ⟨_, _, h, rfl, fun w' => ?_⟩; simp [execOp, ho, hx, hy, hg, binOp, Op.intDiv, h0]; done)
        | (refine ⟨_, _, h, rfl, fun w' => ?_⟩; simp [execOp, ho, hx, hy, hg, binOp, Op.intArith, Op.intBits, Op.intCmp]; done)
        | (refine ⟨_, _, h, rfl, fun w' => ?_⟩; simp [execOp, ho, hx, hy, hg, binOp, Op.intCmp, hbe]; done)
        | (refine ⟨_, _, h, rfl, fun w' => ?_⟩; simp [execOp, ho, hx, hy, hg, binOp, Op.intCmp, bne, hbe]; done)
  · rename_i s r _
    have hx : a.eval x = .string ⟨s.toArray⟩ := he
    have hy : a.eval y = .string ⟨r.toArray⟩ := hf
    have hg : ∀ w', (eqGuard op t x y (.string ⟨s.toArray⟩) (.string ⟨r.toArray⟩)).run P w' = .ok () w' := fun w' => by
      unfold eqGuard
      cases op <;> simp
    have hbe : (s == r) = decide (s = r) := by rw [Bool.eq_iff_iff]; simp
    unfold astr at h
    split at h
    · obtain ⟨h0, h⟩ := h
      refine ⟨_, _, h, rfl, fun w' => ?_⟩
      have h1 : ¬ (9223372036854775807 : Int) < (s.length : Int) + (r.length : Int) := by omega
      have h2 : IntKind.i64.max = 9223372036854775807 := by decide
      simp [execOp, ho, hx, hy, hg, binOp, Op.stringOp, size_mk, h1, h2]
      apply ByteArray.ext
      simp
    all_goals first
      | exact h.elim
      | (refine ⟨_, _, h, rfl, fun w' => ?_⟩; simp only [execOp, ho, hx, hy, Sem.run_bind, hg, Result.andThen_ok, binOp, Op.stringOp, toList_mk, Sem.run_pure]; done)
      | (refine ⟨_, _, h, rfl, fun w' => ?_⟩; simp only [execOp, ho, hx, hy, Sem.run_bind, hg, Result.andThen_ok, binOp, Op.stringOp, toList_mk, Sem.run_pure, hbe]; done)
      | (refine ⟨_, _, h, rfl, fun w' => ?_⟩; simp only [execOp, ho, hx, hy, Sem.run_bind, hg, Result.andThen_ok, binOp, Op.stringOp, toList_mk, Sem.run_pure, hbe, decide_not]; done)
  · exact h.elim

end
end Go.Proofs.YtafenginfojcmaaGreatDoor
