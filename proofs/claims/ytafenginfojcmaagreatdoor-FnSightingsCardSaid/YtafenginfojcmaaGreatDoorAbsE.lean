/- The abstract machine, part E: soundness of the operations that leave the heap alone, continued. No program is named here. -/
import Derived.Test.YtafenginfojcmaaGreatDoorAbsD
namespace Go.Proofs.YtafenginfojcmaaGreatDoor
open Go.RowKit

section
variable {P : Program} {φ : Nat → Place} {H : AHeap} {F : AFrame} {a : Act} {B : Bd} {w : World}

theorem bnd_of (hF : FRep φ H.n F a.tmps) {x : Option Operand} {d m : Int} (h : bnd F d x = some m) : (x = none ∧ m = d) ∨ ∃ y k, x = some y ∧ a.eval y = .int k m := by
  cases x with
  | none => simp [bnd] at h; exact .inl ⟨rfl, h.symm⟩
  | some y => obtain ⟨k, hk⟩ := asI_of hF (show asI (opnd F y) = some m from h); exact .inr ⟨y, k, rfl, hk⟩

/-- the bounds of a slice expression without a third index -/
theorem run_bounds (hF : FRep φ H.n F a.tmps) (isS : Bool) {lo hi : Option Operand} {n c : Nat} {l h : Int} (hl : bnd F 0 lo = some l) (hh : bnd F n hi = some h) (h0 : 0 ≤ l) (h1 : l ≤ h) (h2 : h ≤ n) (hc : n ≤ c) (w' : World) :
    (Instr.sliceBounds isS n c (lo.map a.eval) (hi.map a.eval) none).run P w' = .ok (l.toNat, h.toNat, c) w' := by
  have hlc : h ≤ c := by omega
  have h3 : 0 ≤ h := by omega
  have h4 : max h 0 = h := by omega
  rcases bnd_of hF hl with ⟨rfl, rfl⟩ | ⟨y, k, rfl, hy⟩ <;> rcases bnd_of hF hh with ⟨rfl, rfl⟩ | ⟨z, k', rfl, hz⟩
  · simp [Instr.sliceBounds]
  · simp [Instr.sliceBounds, hz, Instr.sliceBound, asIntOf, h3, hlc]
  · simp [Instr.sliceBounds, hy, Instr.sliceBound, asIntOf, h0, h1]
  · simp [Instr.sliceBounds, hy, hz, Instr.sliceBound, asIntOf, h0, h1, h3, h4, hlc]

theorem run_bounds0 (hF : FRep φ H.n F a.tmps) (isS : Bool) {lo : Option Operand} {hi m : Operand} {n c : Nat} (hl : bnd F 0 lo = some 0) (hh : asI (opnd F hi) = some 0) (hm : asI (opnd F m) = some 0) (w' : World) :
    (Instr.sliceBounds isS n c (lo.map a.eval) (some (a.eval hi)) (some (a.eval m))).run P w' = .ok (0, 0, 0) w' := by
  obtain ⟨km, hm⟩ := asI_of hF hm
  obtain ⟨kh, hh⟩ := asI_of hF hh
  rcases bnd_of hF hl with ⟨rfl, _⟩ | ⟨y, k, rfl, hy⟩
  · simp [Instr.sliceBounds, hh, hm, Instr.sliceBound, asIntOf]
  · simp [Instr.sliceBounds, hy, hh, hm, Instr.sliceBound, asIntOf]

theorem extract_eq (s : List UInt8) (l h : Nat) : (⟨s.toArray⟩ : ByteArray).extract l h = ⟨((s.take h).drop l).toArray⟩ := by
  apply ByteArray.ext
  simp [ByteArray.data_extract, List.drop_take]

theorem dK_str {t : TypeId} (h : dK P t = some .str) : P.underlying t = some .string := by
  unfold dK at h
  split at h <;> first | assumption | (simp at h; done) | skip
  split at h <;> simp at h

theorem size_mk (s : List UInt8) : (⟨s.toArray⟩ : ByteArray).size = s.length := rfl

theorem y_slice {o : Oper} {t : TypeId} {x : Operand} {lo hi mx : Option Operand} {K : AV → Prop} (ho : o.op = .slice t x lo hi mx) (hH : HRep φ B H w) (hF : FRep φ H.n F a.tmps) (h : apure P H F (.slice t x lo hi mx) K) :
    ∃ v u, K v ∧ RepV φ H.n v u ∧ YieldsAll P a o u := by
  simp only [apure] at h
  obtain ⟨v, hv, h⟩ := onv_iff.1 h
  obtain ⟨l, hl, h⟩ := onv_iff.1 h
  have he := eval_of hF hv
  split at h
  · rename_i s _ _
    have hx : a.eval x = .string ⟨s.toArray⟩ := he
    obtain ⟨h', hh, hd, h0, h1, h2, h⟩ := onv_iff.1 h
    refine ⟨_, _, h, rfl, fun w' => ?_⟩
    have hb := run_bounds (P := P) hF false hl hh h0 h1 h2 (Nat.le_refl _) w'
    have hu := dK_str hd
    simp [execOp, ho, hx, Instr.sliceAt, run_underlying hu, Instr.slice, size_mk, hb, extract_eq]
  · rename_i b i n _ _
    obtain ⟨hb, ad, cap, hx, hn, hcap, had⟩ := (show RepC φ H.n (.sl b i n) _ from he)
    obtain ⟨k, hk, h⟩ := onv_iff.1 h
    obtain ⟨s, hs, h⟩ := onv_iff.1 h
    obtain ⟨h', hh, h1, h0, h2, h3, h⟩ := onv_iff.1 h
    obtain ⟨inf, g1, g2, g3, _⟩ := slK_some hs
    have hc := hH.cells b k hk
    have hbd := fun w' => run_bounds (P := P) hF true hl hh h0 h2 h3 hn w'
    refine ⟨_, .slice (if cap = l.toNat then ad else ad.map (·.add (l.toNat * k.esz))) (h' - l).toNat (cap - l.toNat), h, ⟨hb, _, _, rfl, by omega, by omega, fun hpos => ?_⟩, fun w' => ?_⟩
    · rw [if_neg (by omega), had (by omega)]
      simp only [Option.map_some, ← hc.esz, adr_row]
    · have e1 : h'.toNat - l.toNat = (h' - l).toNat := by omega
      simp [execOp, ho, hx, Instr.sliceAt, run_underlying g1, Instr.slice, hbd, sizeOf, typeInfo, g2, g3, h1, e1]
  · rename_i b i n m _ _
    obtain ⟨hb, ad, cap, hx, hn, hcap, had⟩ := (show RepC φ H.n (.sl b i n) _ from he)
    obtain ⟨s, hs, h⟩ := onv_iff.1 h
    obtain ⟨h', hh, h⟩ := onv_iff.1 h
    obtain ⟨m', hm, h0, h1, h2, hK⟩ := onv_iff.1 h
    subst h0 h1 h2
    obtain ⟨inf, g1, g2, g3, _⟩ := slK_some hs
    obtain ⟨y, rfl, hy⟩ := Option.bind_eq_some_iff.1 hh
    have hbd := fun w' => run_bounds0 (P := P) hF true (n := n) (c := cap) hl hy hm w'
    refine ⟨_, .slice ad 0 0, hK, ⟨_, rfl⟩, fun w' => ?_⟩
    simp [execOp, ho, hx, Instr.sliceAt, run_underlying g1, Instr.slice, hbd, sizeOf, typeInfo, g2]
  · obtain ⟨ad, hx⟩ := (show RepC φ H.n .nils _ from he)
    obtain ⟨s, hs, h⟩ := onv_iff.1 h
    obtain ⟨h', hh, h0, h1, hK⟩ := onv_iff.1 h
    subst h0 h1
    obtain ⟨inf, g1, g2, g3, _⟩ := slK_some hs
    have hbd := fun w' => run_bounds (P := P) hF true (n := 0) (c := 0) hl hh (Int.le_refl _) (Int.le_refl _) (Int.le_refl _) (Nat.le_refl _) w'
    refine ⟨_, .slice ad 0 0, hK, ⟨_, rfl⟩, fun w' => ?_⟩
    simp [execOp, ho, hx, Instr.sliceAt, run_underlying g1, Instr.slice, hbd, sizeOf, typeInfo, g2]
  · rename_i m _ _
    obtain ⟨ad, hx⟩ := (show RepC φ H.n .nils _ from he)
    obtain ⟨s, hs, h⟩ := onv_iff.1 h
    obtain ⟨h', hh, h⟩ := onv_iff.1 h
    obtain ⟨m', hm, h0, h1, h2, hK⟩ := onv_iff.1 h
    subst h0 h1 h2
    obtain ⟨inf, g1, g2, g3, _⟩ := slK_some hs
    obtain ⟨y, rfl, hy⟩ := Option.bind_eq_some_iff.1 hh
    have hbd := fun w' => run_bounds0 (P := P) hF true (n := 0) (c := 0) hl hy hm w'
    refine ⟨_, .slice ad 0 0, hK, ⟨_, rfl⟩, fun w' => ?_⟩
    simp [execOp, ho, hx, Instr.sliceAt, run_underlying g1, Instr.slice, hbd, sizeOf, typeInfo, g2]
  · rename_i b i j _ _
    obtain ⟨hb, hx⟩ := (show RepC φ H.n (.ptr b i j) _ from he)
    obtain ⟨k, hk, h⟩ := onv_iff.1 h
    obtain ⟨n, hn, h⟩ := onv_iff.1 h
    obtain ⟨h', hh, rfl, h1, h5, h0, h2, h3, h⟩ := onv_iff.1 h
    obtain ⟨e, inf, g1, g2, g3, g4⟩ := tyK_arr (arrK_some hn)
    obtain ⟨d, inf', e1, e2, e3, _⟩ := underlying_of_cellT g4
    have hc := hH.cells b k hk
    have e1' : (φ b).esz = 1 := by rw [hc.esz, h1]
    have hcc := hc.cap
    have hbd := fun w' => run_bounds (P := P) hF false hl hh h0 h2 h3 (Nat.le_refl _) w'
    have had := adr_row (φ b) i l.toNat
    rw [e1', Nat.mul_one] at had
    refine ⟨_, .slice (some (if n = l.toNat then (φ b).adr i 0 else ((φ b).adr i 0).add l.toNat)) (h' - l).toNat (n - l.toNat), h, ⟨hb, _, _, rfl, by omega, by omega, fun hpos => ?_⟩, fun w' => ?_⟩
    · rw [if_neg (by omega), had]
    · have e1 : h'.toNat - l.toNat = (h' - l).toNat := by omega
      simp [execOp, ho, hx, Instr.sliceAt, Instr.sureAddr, run_underlying g1, hbd, sizeOf, typeInfo, e2, e3, e1]
  · exact h.elim

end
end Go.Proofs.YtafenginfojcmaaGreatDoor
