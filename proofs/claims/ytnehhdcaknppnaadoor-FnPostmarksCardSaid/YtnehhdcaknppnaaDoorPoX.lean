/- Texts sorted and cut, by the kit's shelf; each text once. -/
import Derived.Test.YtnehhdcaknppnaaDoorPoT
import Derived.Sort.Walk0
set_option maxRecDepth 8000
set_option linter.unusedSimpArgs false
set_option linter.unusedVariables false
namespace Go.Proofs.YtnehhdcaknppnaaDoor
open Go Go.RowKit

set_option maxHeartbeats 1000000
/-- a row's numbers in order -/
def sortT (zs : List (List UInt8)) : List (List UInt8) := zs.mergeSort fun x y => decide (x ≤ y)
theorem sortT_len (zs : List (List UInt8)) : (sortT zs).length = zs.length := List.length_mergeSort zs
def q_sortT : Con := fun args H K => match args with
  | [.c (.sl b i n)] => onv (H.b b) fun kb => i = 0 ∧ 0 < n ∧ n ≤ 1000000 ∧ kb.ro = false ∧ kb.esz = 1 ∧ kb.els.length = n ∧ onv (eT.decL kb.els) fun zs => K (.tup []) (H.set b (reK kb ((sortT zs).map eT.cells)))
  | _ => False
@[simp ↓] theorem q_sortT_eq (b i n : Nat) (H : AHeap) (K : AV → AHeap → Prop) : q_sortT [.c (.sl b i n)] H K = onv (H.b b) fun kb => i = 0 ∧ 0 < n ∧ n ≤ 1000000 ∧ kb.ro = false ∧ kb.esz = 1 ∧ kb.els.length = n ∧ onv (eT.decL kb.els) fun zs => K (.tup []) (H.set b (reK kb ((sortT zs).map eT.cells))) := rfl
theorem slices_Sort___string_string_s : Sound Tryd.prog 85 q_sortT := by
  intro args H K h
  unfold q_sortT at h
  split at h
  rotate_left
  all_goals first | exact False.elim h | skip
  rename_i b i n
  have h1 := onv_iff.1 h
  clear h
  obtain ⟨kb, hk, rfl, hn, hn2, hro, hesz, hlen, h⟩ := h1
  have h1 := onv_iff.1 h
  clear h
  obtain ⟨zs, hz, h⟩ := h1
  have he := Enc.decL_eq eT hz
  have hzl : zs.length = n := by rw [← hlen, he, List.length_map]
  refine ⟨fun args w => enters_of Tryd.func85 (by kernel_rfl) rfl args w, fun φ B w vs hH hr => ?_⟩
  obtain ⟨v, rfl⟩ : ∃ v, vs = [v] := by
    match vs, hr with
    | [v], _ => exact ⟨v, rfl⟩
    | [], hr => exact hr.elim
    | _ :: _ :: _, hr => exact hr.2.elim
  obtain ⟨hb, a, cap, rfl, hcap, hcap2, ha⟩ := hr.1
  obtain rfl := ha (by omega)
  have hphi : 0 < (φ b).cap := by omega
  have hown := hH.own b kb hk hro hphi
  have hc := hH.cells b kb hk
  obtain ⟨cs, fz, hrow, hsz, hfz, hfr⟩ := hown.row
  have hesz' : (φ b).esz = 1 := hc.esz.trans hesz
  have hcc := hc.cap
  rw [hesz', Nat.mul_one] at hsz
  have hadr : ∀ j, (φ b).adr j 0 = ⟨(φ b).blk, 0 + j, none⟩ := fun j => by simp [Place.adr, hown.off, hesz']
  have hcell : ∀ j (hj : j < zs.length), w.cell? ⟨(φ b).blk, 0 + j, none⟩ = some (Go.Proofs.encStr zs[j]) := fun j hj => by
    obtain ⟨v, h1, h2⟩ := hc.cell j (eT.cells zs[j]) (by rw [he, List.getElem?_map, List.getElem?_eq_getElem hj]; rfl) 0 (.str zs[j]) rfl
    rw [hadr] at h1
    rw [h1, show v = Go.Proofs.encStr zs[j] from h2]
  have hHo : Go.Sort.Holds Go.Proofs.encStr w (φ b).blk 0 zs.toArray := fun j hj => by
    have hj' : j < zs.length := by simpa using hj
    refine ⟨by rw [hcell j hj']; simp [hj'], ?_⟩
    have := hfr j (by omega)
    simp only [World.frozen?, hrow, Nat.zero_add]
    simpa using this
  have hblk : (φ b).blk < w.heap.size := (Array.getElem?_eq_some_iff.1 hrow).1
  rw [hadr 0]
  have main := Tryd.slices_Sort_string (φ b).blk 0 cap zs w hHo hblk (by omega)
  rw [hzl] at main
  refine main.mono ?_
  rintro e w' ⟨rfl, m, os, rfl⟩
  have hyl := sortT_len zs
  unfold sortT at hyl h
  generalize hys : (zs.mergeSort fun x y => decide (x ≤ y)) = ys at hyl h
  have hoth : ∀ c, c ≠ (φ b).blk → (Go.Sort.putRow Go.Proofs.encStr (Go.Sort.ahead w m) (φ b).blk 0 ys.toArray).heap[c]? = w.heap[c]? := fun c hc' => by
    simp [Go.Sort.putRow, Go.Sort.mapBlock, Go.Sort.ahead, Array.getElem?_modify, Ne.symm hc']
  have hrow1 : (Go.Sort.putRow Go.Proofs.encStr (Go.Sort.ahead w m) (φ b).blk 0 ys.toArray).heap[(φ b).blk]? = some (.cells (Go.Sort.putCells Go.Proofs.encStr 0 ys.toArray cs) kb.ty fz) := by
    simp [Go.Sort.putRow, Go.Sort.mapBlock, Go.Sort.ahead, Array.getElem?_modify, hrow, Go.Sort.onCells]
  have hsz1 : (Go.Sort.putRow Go.Proofs.encStr (Go.Sort.ahead w m) (φ b).blk 0 ys.toArray).heap.size = w.heap.size := by simp [Go.Sort.ahead]
  have hbl : Kept B w (Go.Sort.putRow Go.Proofs.encStr (Go.Sort.ahead w m) (φ b).blk 0 ys.toArray) :=
    ⟨⟨rfl, rfl, rfl, by rw [hsz1]; exact Nat.le_refl _, fun k hk' => hoth k (by have := hown.base; omega)⟩, fun c hc' => hoth c fun e => hown.out (e ▸ hc')⟩
  have hc' : BCells φ H.n (φ b) (reK kb (ys.map eT.cells)) (Go.Sort.putRow Go.Proofs.encStr (Go.Sort.ahead w m) (φ b).blk 0 ys.toArray) := by
    refine ⟨hc.esz, by simp only [reK_els, List.length_map]; omega, fun i e hi => ?_, fun i e hi j x hx => ?_⟩
    · simp only [reK_els, List.getElem?_map, Option.map_eq_some_iff] at hi
      obtain ⟨y, _, rfl⟩ := hi
      rw [reK_esz, hesz]; rfl
    · simp only [reK_els, List.getElem?_map, Option.map_eq_some_iff] at hi
      obtain ⟨y, hy, rfl⟩ := hi
      obtain ⟨hiy, rfl⟩ := List.getElem?_eq_some_iff.1 hy
      match j, hx with
      | 0, hx =>
        cases hx
        refine ⟨Go.Proofs.encStr ys[i], ?_, rfl⟩
        rw [hadr, Go.Sort.cell?_putRow Go.Proofs.encStr (Go.Sort.ahead w m) (φ b).blk 0 zs.toArray ys.toArray hHo (by simp [hyl]) i (by simpa using hiy)]
        simp [hiy]
      | j + 1, hx => cases hx
  have hH1 := hH.stored (k' := reK kb (ys.map eT.cells)) hk hro hphi rfl rfl hro hsz1 hoth hrow1 ⟨cs, hrow, by simp [Go.Sort.putCells]⟩ hbl hc'
  have hb2 : Below (Go.Sort.putRow Go.Proofs.encStr (Go.Sort.ahead w m) (φ b).blk 0 ys.toArray).heap.size (Go.Sort.putRow Go.Proofs.encStr (Go.Sort.ahead w m) (φ b).blk 0 ys.toArray) (Go.Sort.grow (Go.Sort.putRow Go.Proofs.encStr (Go.Sort.ahead w m) (φ b).blk 0 ys.toArray) os) :=
    ⟨rfl, rfl, rfl, by simp [Go.Sort.grow], fun i hi => by simp only [Go.Sort.grow]; rw [Array.getElem?_append_left hi]⟩
  exact ⟨.tup [], _, φ, _, rfl, ⟨[], rfl, trivial⟩, hH1.keep hb2, hbl.trans (.of_below hH1.size hH1.tlt hb2), Nat.le_refl _, fun _ _ => rfl, h⟩

set_option maxHeartbeats 1000000
/-- slices.Sort, at no element too -/
def q_sortTA : Con := fun args H K => match args with
  | [.c .nils] => K (.tup []) H
  | [.c (.sl b i n)] => if n = 0 then K (.tup []) H else onv (H.b b) fun kb => i = 0 ∧ n ≤ 1000000 ∧ kb.ro = false ∧ kb.esz = 1 ∧ kb.els.length = n ∧ onv (eT.decL kb.els) fun zs => K (.tup []) (H.set b (reK kb ((sortT zs).map eT.cells)))
  | _ => False
@[simp ↓] theorem q_sortTA_nils (H : AHeap) (K : AV → AHeap → Prop) : q_sortTA [.c .nils] H K = K (.tup []) H := rfl
@[simp ↓] theorem q_sortTA_eq (b i n : Nat) (H : AHeap) (K : AV → AHeap → Prop) : q_sortTA [.c (.sl b i n)] H K = if n = 0 then K (.tup []) H else onv (H.b b) fun kb => i = 0 ∧ n ≤ 1000000 ∧ kb.ro = false ∧ kb.esz = 1 ∧ kb.els.length = n ∧ onv (eT.decL kb.els) fun zs => K (.tup []) (H.set b (reK kb ((sortT zs).map eT.cells))) := rfl
theorem sortT_none {a : Option Addr} {cap : Nat} (w : World) : Calls Tryd.prog 85 #[.slice a 0 cap] w fun e w' => e = .returned (.tuple #[]) ∧ w' = w := Tryd.slices_Sort_string_none a cap w
theorem slices_SortTA_s : Sound Tryd.prog 85 q_sortTA := by
  intro args H K h
  unfold q_sortTA at h
  split at h
  rotate_left
  · rename_i b i n
    by_cases hn : n = 0
    · subst hn
      rw [if_pos rfl] at h
      refine ⟨fun args w => enters_of Tryd.func85 (by kernel_rfl) rfl args w, fun φ B w vs hH hr => ?_⟩
      obtain ⟨v, rfl⟩ : ∃ v, vs = [v] := by
        match vs, hr with
        | [v], _ => exact ⟨v, rfl⟩
        | [], hr => exact hr.elim
        | _ :: _ :: _, hr => exact hr.2.elim
      obtain ⟨hb, a, cap, rfl, _⟩ := hr.1
      refine (sortT_none w).mono ?_
      rintro e w' ⟨rfl, rfl⟩
      exact ⟨.tup [], _, φ, H, rfl, ⟨[], rfl, trivial⟩, hH, .refl _ _, Nat.le_refl _, fun _ _ => rfl, h⟩
    · rw [if_neg hn] at h
      refine slices_Sort___string_string_s _ H K ?_
      have h1 := onv_iff.1 h
      obtain ⟨kb, hk, h2, h3, h4, h5, h6, h7⟩ := h1
      rw [q_sortT_eq]
      exact onv_iff.2 ⟨kb, hk, h2, by omega, h3, h4, h5, h6, h7⟩
  · exact h.elim
  · refine ⟨fun args w => enters_of Tryd.func85 (by kernel_rfl) rfl args w, fun φ B w vs hH hr => ?_⟩
    obtain ⟨v, rfl⟩ : ∃ v, vs = [v] := by
      match vs, hr with
      | [v], _ => exact ⟨v, rfl⟩
      | [], hr => exact hr.elim
      | _ :: _ :: _, hr => exact hr.2.elim
    obtain ⟨a, rfl⟩ := hr.1
    refine (sortT_none w).mono ?_
    rintro e w' ⟨rfl, rfl⟩
    exact ⟨.tup [], _, φ, H, rfl, ⟨[], rfl, trivial⟩, hH, .refl _ _, Nat.le_refl _, fun _ _ => rfl, h⟩
/-- slices.Compact: what is cut off is forgotten -/
def q_compactT : Con := fun args H K => match args with
  | [.c (.sl b i n)] => if n = 0 then K (.c (.sl b i 0)) H else onv (H.b b) fun kb => i = 0 ∧ n ≤ 1000000 ∧ kb.ro = false ∧ kb.esz = 1 ∧ kb.els.length = n ∧ onv (eT.decL kb.els) fun zs => K (.c (.sl b 0 (Lib.compact zs).length)) (H.set b (reK kb ((Lib.compact zs).map eT.cells)))
  | _ => False
@[simp ↓] theorem q_compactT_eq (b i n : Nat) (H : AHeap) (K : AV → AHeap → Prop) : q_compactT [.c (.sl b i n)] H K = if n = 0 then K (.c (.sl b i 0)) H else onv (H.b b) fun kb => i = 0 ∧ n ≤ 1000000 ∧ kb.ro = false ∧ kb.esz = 1 ∧ kb.els.length = n ∧ onv (eT.decL kb.els) fun zs => K (.c (.sl b 0 (Lib.compact zs).length)) (H.set b (reK kb ((Lib.compact zs).map eT.cells))) := rfl
theorem compactT_none {a : Option Addr} {cap : Nat} (w : World) : Calls Tryd.prog 86 #[.slice a 0 cap] w fun e w' => e = .returned (.slice a 0 cap) ∧ w' = w := Tryd.slices_Compact_string_empty a cap w
theorem slices_CompactT_s : Sound Tryd.prog 86 q_compactT := by
  intro args H K h
  unfold q_compactT at h
  split at h
  rotate_left
  · exact h.elim
  rename_i b i n
  by_cases hn : n = 0
  · subst hn
    rw [if_pos rfl] at h
    refine ⟨fun args w => enters_of Tryd.func86 (by kernel_rfl) rfl args w, fun φ B w vs hH hr => ?_⟩
    obtain ⟨v, rfl⟩ : ∃ v, vs = [v] := by
      match vs, hr with
      | [v], _ => exact ⟨v, rfl⟩
      | [], hr => exact hr.elim
      | _ :: _ :: _, hr => exact hr.2.elim
    obtain ⟨hb, a, cap, rfl, hr2⟩ := hr.1
    refine (compactT_none w).mono ?_
    rintro e w' ⟨rfl, rfl⟩
    exact ⟨.c (.sl b i 0), _, φ, H, rfl, ⟨hb, a, cap, rfl, hr2⟩, hH, .refl _ _, Nat.le_refl _, fun _ _ => rfl, h⟩
  rw [if_neg hn] at h
  have h1 := onv_iff.1 h
  clear h
  obtain ⟨kb, hk, rfl, hn2, hro, hesz, hlen, h⟩ := h1
  have h1 := onv_iff.1 h
  clear h
  obtain ⟨zs, hz, h⟩ := h1
  have he := Enc.decL_eq eT hz
  have hzl : zs.length = n := by rw [← hlen, he, List.length_map]
  refine ⟨fun args w => enters_of Tryd.func86 (by kernel_rfl) rfl args w, fun φ B w vs hH hr => ?_⟩
  obtain ⟨v, rfl⟩ : ∃ v, vs = [v] := by
    match vs, hr with
    | [v], _ => exact ⟨v, rfl⟩
    | [], hr => exact hr.elim
    | _ :: _ :: _, hr => exact hr.2.elim
  obtain ⟨hb, a, cap, rfl, hcap, hcap2, ha⟩ := hr.1
  obtain rfl := ha (by omega)
  have hphi : 0 < (φ b).cap := by omega
  have hown := hH.own b kb hk hro hphi
  have hc := hH.cells b kb hk
  obtain ⟨cs, fz, hrow, hsz, hfz, hfr⟩ := hown.row
  have hesz' : (φ b).esz = 1 := hc.esz.trans hesz
  have hcc := hc.cap
  rw [hesz', Nat.mul_one] at hsz
  have hadr : ∀ j, (φ b).adr j 0 = ⟨(φ b).blk, 0 + j, none⟩ := fun j => by simp [Place.adr, hown.off, hesz']
  have hcell : ∀ j (hj : j < zs.length), w.cell? ⟨(φ b).blk, 0 + j, none⟩ = some (Go.Proofs.encStr zs[j]) := fun j hj => by
    obtain ⟨v, h1, h2⟩ := hc.cell j (eT.cells zs[j]) (by rw [he, List.getElem?_map, List.getElem?_eq_getElem hj]; rfl) 0 (.str zs[j]) rfl
    rw [hadr] at h1
    rw [h1, show v = Go.Proofs.encStr zs[j] from h2]
  have hHo : Go.Sort.Holds Go.Proofs.encStr w (φ b).blk 0 zs.toArray := fun j hj => by
    have hj' : j < zs.length := by simpa using hj
    refine ⟨by rw [hcell j hj']; simp [hj'], ?_⟩
    have := hfr j (by omega)
    simp only [World.frozen?, hrow, Nat.zero_add]
    simpa using this
  have hblk : (φ b).blk < w.heap.size := (Array.getElem?_eq_some_iff.1 hrow).1
  rw [hadr 0]
  have hcl := Lib.compact_length_le zs
  have main := Tryd.slices_Compact_string (φ b).blk 0 cap zs w hHo (by omega) (by omega)
  rw [hzl] at main
  refine main.mono ?_
  rintro e w' ⟨rfl, m, rfl⟩
  have hyl : (Lib.compact zs ++ List.replicate (n - (Lib.compact zs).length) []).length = zs.length := by simp; omega
  have hlow : ∀ i (hi : i < (Lib.compact zs).length), (Lib.compact zs ++ List.replicate (n - (Lib.compact zs).length) ([] : List UInt8))[i]? = some (Lib.compact zs)[i] := fun i hi => by rw [List.getElem?_append_left hi, List.getElem?_eq_getElem hi]
  generalize hys : (Lib.compact zs ++ List.replicate (n - (Lib.compact zs).length) ([] : List UInt8)) = ys at hyl hlow
  have hoth : ∀ c, c ≠ (φ b).blk → (Go.Sort.putRow Go.Proofs.encStr (Go.Sort.ahead w m) (φ b).blk 0 ys.toArray).heap[c]? = w.heap[c]? := fun c hc' => by
    simp [Go.Sort.putRow, Go.Sort.mapBlock, Go.Sort.ahead, Array.getElem?_modify, Ne.symm hc']
  have hrow1 : (Go.Sort.putRow Go.Proofs.encStr (Go.Sort.ahead w m) (φ b).blk 0 ys.toArray).heap[(φ b).blk]? = some (.cells (Go.Sort.putCells Go.Proofs.encStr 0 ys.toArray cs) kb.ty fz) := by
    simp [Go.Sort.putRow, Go.Sort.mapBlock, Go.Sort.ahead, Array.getElem?_modify, hrow, Go.Sort.onCells]
  have hsz1 : (Go.Sort.putRow Go.Proofs.encStr (Go.Sort.ahead w m) (φ b).blk 0 ys.toArray).heap.size = w.heap.size := by simp [Go.Sort.ahead]
  have hbl : Kept B w (Go.Sort.putRow Go.Proofs.encStr (Go.Sort.ahead w m) (φ b).blk 0 ys.toArray) :=
    ⟨⟨rfl, rfl, rfl, by rw [hsz1]; exact Nat.le_refl _, fun k hk' => hoth k (by have := hown.base; omega)⟩, fun c hc' => hoth c fun e => hown.out (e ▸ hc')⟩
  have hc' : BCells φ H.n (φ b) (reK kb ((Lib.compact zs).map eT.cells)) (Go.Sort.putRow Go.Proofs.encStr (Go.Sort.ahead w m) (φ b).blk 0 ys.toArray) := by
    refine ⟨hc.esz, by simp only [reK_els, List.length_map]; omega, fun i e hi => ?_, fun i e hi j x hx => ?_⟩
    · simp only [reK_els, List.getElem?_map, Option.map_eq_some_iff] at hi
      obtain ⟨y, _, rfl⟩ := hi
      rw [reK_esz, hesz]; rfl
    · simp only [reK_els, List.getElem?_map, Option.map_eq_some_iff] at hi
      obtain ⟨y, hy, rfl⟩ := hi
      obtain ⟨hiy, rfl⟩ := List.getElem?_eq_some_iff.1 hy
      have hl := hlow i hiy
      obtain ⟨hiy2, hl2⟩ := List.getElem?_eq_some_iff.1 hl
      match j, hx with
      | 0, hx =>
        cases hx
        refine ⟨Go.Proofs.encStr ys[i], ?_, by rw [hl2]; rfl⟩
        rw [hadr, Go.Sort.cell?_putRow Go.Proofs.encStr (Go.Sort.ahead w m) (φ b).blk 0 zs.toArray ys.toArray hHo (by simp [hyl]) i (by simpa using hiy2)]
        simp [hiy2]
      | j + 1, hx => cases hx
  have hH1 := hH.stored (k' := reK kb ((Lib.compact zs).map eT.cells)) hk hro hphi rfl rfl hro hsz1 hoth hrow1 ⟨cs, hrow, by simp [Go.Sort.putCells]⟩ hbl hc'
  exact ⟨.c (.sl b 0 (Lib.compact zs).length), _, φ, H.set b (reK kb ((Lib.compact zs).map eT.cells)), rfl, ⟨hb, _, cap, rfl, by omega, hcap2, fun _ => by rw [hadr 0]⟩, hH1, hbl, Nat.le_refl _, fun _ _ => rfl, h⟩

/-! ### texts in order -/
theorem bl_irr : ∀ a : List UInt8, Op.bytesLess a a = false
  | [] => rfl
  | x :: r => by simp [Op.bytesLess, bl_irr r]
theorem bl_tr : ∀ a b c : List UInt8, Op.bytesLess a b = true → Op.bytesLess b c = true → Op.bytesLess a c = true
  | [], [], c, h, _ => by simp [Op.bytesLess] at h
  | [], _ :: _, [], _, h => by simp [Op.bytesLess] at h
  | [], _ :: _, _ :: _, _, _ => by simp [Op.bytesLess]
  | _ :: _, [], c, h, _ => by simp [Op.bytesLess] at h
  | _ :: _, _ :: _, [], _, h => by simp [Op.bytesLess] at h
  | x :: a, y :: b, z :: c, h1, h2 => by
    have ih := bl_tr a b c
    simp only [Op.bytesLess, Bool.or_eq_true, Bool.and_eq_true, decide_eq_true_eq, beq_iff_eq] at h1 h2 ⊢
    rcases h1 with h1 | ⟨rfl, h1⟩
    · rcases h2 with h2 | ⟨rfl, h2⟩
      · exact .inl (by simp only [UInt8.lt_iff_toNat_lt] at *; omega)
      · exact .inl h1
    · rcases h2 with h2 | ⟨rfl, h2⟩
      · exact .inl h2
      · exact .inr ⟨rfl, ih h1 h2⟩
theorem bl_eq : ∀ a b : List UInt8, Op.bytesLess a b = false → Op.bytesLess b a = false → a = b
  | [], [], _, _ => rfl
  | [], _ :: _, h, _ => by simp [Op.bytesLess] at h
  | _ :: _, [], _, h => by simp [Op.bytesLess] at h
  | x :: a, y :: b, h1, h2 => by
    have ih := bl_eq a b
    simp only [Op.bytesLess, Bool.or_eq_false_iff, Bool.and_eq_false_iff, decide_eq_false_iff_not, beq_eq_false_iff_ne, ne_eq] at h1 h2
    have hxy : x = y := UInt8.toNat_inj.1 (by have h3 := h1.1; have h4 := h2.1; simp only [UInt8.lt_iff_toNat_lt] at h3 h4; omega)
    subst hxy
    simp only [not_true_eq_false, false_or] at h1 h2
    rw [ih h1.2 h2.2]
/-- a before b -/
def ltT (a b : List UInt8) : Prop := Op.bytesLess a b = true
theorem up_extT : ∀ {L M : List (List UInt8)}, L.Pairwise ltT → M.Pairwise ltT → (∀ k, k ∈ L ↔ k ∈ M) → L = M
  | [], [], _, _, _ => rfl
  | [], m :: M, _, _, h => absurd ((h m).2 (by simp)) (by simp)
  | l :: L, [], _, _, h => absurd ((h l).1 (by simp)) (by simp)
  | l :: L, m :: M, hl, hm, h => by
    rw [List.pairwise_cons] at hl hm
    have h1 := (h l).1 (by simp)
    have h2 := (h m).2 (by simp)
    have hlm : l = m := by
      rcases List.mem_cons.1 h1 with rfl | h1
      · rfl
      · rcases List.mem_cons.1 h2 with rfl | h2
        · rfl
        · have g := bl_tr _ _ _ (hm.1 l h1) (hl.1 m h2)
          rw [bl_irr] at g; cases g
    subst hlm
    rw [up_extT hl.2 hm.2 fun k => ⟨fun hk => ?_, fun hk => ?_⟩]
    · rcases List.mem_cons.1 ((h k).1 (by simp [hk])) with rfl | h3
      · have g := hl.1 k hk; rw [ltT, bl_irr] at g; cases g
      · exact h3
    · rcases List.mem_cons.1 ((h k).2 (by simp [hk])) with rfl | h3
      · have g := hm.1 k hk; rw [ltT, bl_irr] at g; cases g
      · exact h3
/-- a not behind b -/
def leT (a b : List UInt8) : Prop := Op.bytesLess b a = false
theorem leT_dec (a b : List UInt8) : decide (a ≤ b) = !Op.bytesLess b a := by
  rw [bytesLess_eq, ← decide_not]
  rfl
theorem leT_tr {a b c : List UInt8} (h1 : leT a b) (h2 : leT b c) : leT a c := by
  unfold leT at *
  cases h : Op.bytesLess c a with
  | false => rfl
  | true =>
    cases hab : Op.bytesLess a b with
    | true => have := bl_tr _ _ _ h hab; rw [h2] at this; cases this
    | false => rw [bl_eq a b hab h1] at h; rw [h2] at h; cases h
theorem sortT_up (zs : List (List UInt8)) : (sortT zs).Pairwise leT := by
  have hs : (sortT zs).Pairwise (fun x y => decide (x ≤ y) = true) := List.pairwise_mergeSort (fun a b c h1 h2 => by
      rw [leT_dec] at *
      simp only [Bool.not_eq_true'] at *
      exact leT_tr h1 h2) (fun a b => by
      rw [leT_dec, leT_dec]
      cases h : Op.bytesLess b a with
      | false => rfl
      | true =>
        cases h2 : Op.bytesLess a b with
        | false => rfl
        | true => have := bl_tr _ _ _ h h2; rw [bl_irr] at this; cases this) _
  exact hs.imp fun {a b} h => by rw [leT_dec] at h; simpa [leT] using h
theorem sortT_mem (zs : List (List UInt8)) (x : List UInt8) : x ∈ sortT zs ↔ x ∈ zs := (List.mergeSort_perm _ _).mem_iff
/-- of a row in order: each text once -/
theorem compactT_up {zs : List (List UInt8)} (h : zs.Pairwise leT) : (Lib.compact zs).Pairwise ltT ∧ ∀ x, x ∈ Lib.compact zs ↔ x ∈ zs := by
  have hle : ∀ i j, i ≤ j → j < zs.length → leT zs.toArray[i]! zs.toArray[j]! := fun i j hij hj => by
    have hi : i < zs.length := by omega
    have e1 : zs.toArray[i]! = zs[i] := by simp [hi]
    have e2 : zs.toArray[j]! = zs[j] := by simp [hj]
    rw [e1, e2]
    rcases Nat.lt_or_ge i j with h1 | h1
    · exact List.pairwise_iff_getElem.1 h i j hi hj h1
    · obtain rfl : i = j := by omega
      exact bl_irr _
  have main : ∀ m, m ≤ zs.length → (Lib.compactUpTo zs.toArray m).Pairwise ltT ∧ ∀ x, x ∈ Lib.compactUpTo zs.toArray m ↔ ∃ j, j < m ∧ zs.toArray[j]! = x := by
    intro m
    induction m with
    | zero => exact fun _ => ⟨by simp [Lib.compactUpTo], fun x => by simp [Lib.compactUpTo]⟩
    | succ m ih =>
      intro hm
      obtain ⟨h1, h2⟩ := ih (by omega)
      rw [Lib.compactUpTo_succ]
      by_cases hk : Lib.keeps zs.toArray m = true
      · rw [if_pos hk]
        refine ⟨List.pairwise_append.2 ⟨h1, by simp, fun a ha b hb => ?_⟩, fun x => ?_⟩
        · rw [List.mem_singleton.1 hb]
          obtain ⟨j, hj, rfl⟩ := (h2 a).1 ha
          have g1 := hle j (m - 1) (by omega) (by omega)
          have g2 := hle (m - 1) m (by omega) (by omega)
          have g3 : zs.toArray[m]! ≠ zs.toArray[m - 1]! := fun e => by
            rw [Lib.keeps_neg (by omega) e] at hk; cases hk
          have g4 := leT_tr g1 g2
          cases h5 : Op.bytesLess zs.toArray[j]! zs.toArray[m]! with
          | true => exact h5
          | false =>
            have e := bl_eq _ _ h5 g4
            rw [e] at g1
            exact absurd (bl_eq _ _ g2 g1) g3
        · rw [List.mem_append, List.mem_singleton, h2]
          constructor
          · rintro (⟨j, hj, rfl⟩ | rfl)
            · exact ⟨j, by omega, rfl⟩
            · exact ⟨m, by omega, rfl⟩
          · rintro ⟨j, hj, rfl⟩
            rcases Nat.lt_or_ge j m with g | g
            · exact .inl ⟨j, g, rfl⟩
            · exact .inr (by rw [show j = m by omega])
      · rw [if_neg hk]
        simp only [List.append_nil]
        refine ⟨h1, fun x => (h2 x).trans ⟨fun ⟨j, hj, e⟩ => ⟨j, by omega, e⟩, fun ⟨j, hj, e⟩ => ?_⟩⟩
        rcases Nat.lt_or_ge j m with g | g
        · exact ⟨j, g, e⟩
        · obtain rfl : j = m := by omega
          have h0 : 0 < j := by
            rcases Nat.eq_zero_or_pos j with rfl | h0
            · exact absurd (Lib.keeps_lt_one _ 0 (by omega)) hk
            · exact h0
          refine ⟨j - 1, by omega, ?_⟩
          rw [← e]
          by_cases hne : zs.toArray[j]! = zs.toArray[j - 1]!
          · exact hne.symm
          · exact absurd (Lib.keeps_pos hne) hk
  obtain ⟨h1, h2⟩ := main zs.length (Nat.le_refl _)
  refine ⟨h1, fun x => (h2 x).trans ⟨fun ⟨j, hj, e⟩ => ?_, fun hx => ?_⟩⟩
  · rw [← e]; simp [hj]
  · obtain ⟨j, hj, rfl⟩ := List.getElem_of_mem hx
    exact ⟨j, hj, by simp [hj]⟩
/-- a text's place, sought from the end -/
def posD (o : List (List UInt8)) (n : List UInt8) : Nat → Nat
  | 0 => 0
  | k + 1 => if Op.bytesLess n (o.getD k []) = true then posD o n k else k + 1
theorem posD_spec (o : List (List UInt8)) (n : List UInt8) : ∀ m, posD o n m ≤ m ∧ (∀ i, posD o n m ≤ i → i < m → ltT n (o.getD i [])) ∧ (posD o n m = 0 ∨ Op.bytesLess n (o.getD (posD o n m - 1) []) = false)
  | 0 => ⟨Nat.le_refl _, fun i h1 h2 => by omega, .inl rfl⟩
  | m + 1 => by
    obtain ⟨h1, h2, h3⟩ := posD_spec o n m
    simp only [posD]
    split
    · rename_i h
      refine ⟨by omega, fun i hi1 hi2 => ?_, h3⟩
      rcases Nat.lt_or_ge i m with g | g
      · exact h2 i hi1 g
      · rw [show i = m by omega]; exact h
    · rename_i h
      exact ⟨Nat.le_refl _, fun i h1 h2 => by omega, .inr (by simpa using h)⟩
def insT (o : List (List UInt8)) (n : List UInt8) : List (List UInt8) := if n ∈ o then o else o.take (posD o n o.length) ++ n :: o.drop (posD o n o.length)
theorem insT_up {o : List (List UInt8)} (h : o.Pairwise ltT) (n : List UInt8) : (insT o n).Pairwise ltT ∧ ∀ x, x ∈ insT o n ↔ x ∈ o ∨ x = n := by
  unfold insT
  split
  · rename_i hm
    exact ⟨h, fun x => ⟨.inl, fun hx => hx.elim id fun e => e ▸ hm⟩⟩
  rename_i hm
  obtain ⟨h1, h2, h3⟩ := posD_spec o n o.length
  generalize posD o n o.length = k at *
  have hd : ∀ x ∈ o.drop k, ltT n x := fun x hx => by
    obtain ⟨i, hi, rfl⟩ := List.getElem_of_mem hx
    rw [List.length_drop] at hi
    have := h2 (k + i) (by omega) (by omega)
    rw [List.getD_eq_getElem?_getD, List.getElem?_eq_getElem (by omega)] at this
    rw [List.getElem_drop]
    exact this
  have ht : ∀ x ∈ o.take k, ltT x n := fun x hx => by
    obtain ⟨i, hi, rfl⟩ := List.getElem_of_mem hx
    rw [List.length_take] at hi
    rw [List.getElem_take]
    rcases h3 with h3 | h3
    · omega
    rw [List.getD_eq_getElem?_getD, List.getElem?_eq_getElem (by omega), Option.getD_some] at h3
    have h4 : ltT (o[k - 1]'(by omega)) n := by
      cases h5 : Op.bytesLess (o[k - 1]'(by omega)) n with
      | true => exact h5
      | false =>
        have := bl_eq _ _ h5 h3
        exact absurd (this ▸ List.getElem_mem _) hm
    rcases Nat.lt_or_ge i (k - 1) with g | g
    · exact bl_tr _ _ _ (List.pairwise_iff_getElem.1 h i (k - 1) (by omega) (by omega) g) h4
    · have e : i = k - 1 := by omega
      subst e
      exact h4
  have hp : (o.take k ++ o.drop k).Pairwise ltT := by rw [List.take_append_drop]; exact h
  rw [List.pairwise_append] at hp
  refine ⟨List.pairwise_append.2 ⟨hp.1, List.pairwise_cons.2 ⟨hd, hp.2.1⟩, fun x hx y hy => ?_⟩, fun x => ?_⟩
  · rcases List.mem_cons.1 hy with rfl | hy
    · exact ht x hx
    · exact hp.2.2 x hx y hy
  · rw [List.mem_append, List.mem_cons]
    have : x ∈ o ↔ x ∈ o.take k ∨ x ∈ o.drop k := by rw [← List.mem_append, List.take_append_drop]
    rw [this]
    constructor
    · rintro (g | g | g)
      · exact .inl (.inl g)
      · exact .inr g
      · exact .inl (.inr g)
    · rintro ((g | g) | g)
      · exact .inl g
      · exact .inr (.inr g)
      · exact .inr (.inl g)
theorem insT_len (o : List (List UInt8)) (n : List UInt8) : (insT o n).length ≤ o.length + 1 := by
  unfold insT
  split
  · omega
  · have := (posD_spec o n o.length).1
    simp only [List.length_append, List.length_take, List.length_cons, List.length_drop]; omega
/-- all texts put to their places -/
def insAll : List (List UInt8) → List (List UInt8) → List (List UInt8)
  | [], o => o
  | x :: r, o => insAll r (insT o x)
theorem insAll_up : ∀ (l : List (List UInt8)) {o : List (List UInt8)}, o.Pairwise ltT → (insAll l o).Pairwise ltT ∧ ∀ x, x ∈ insAll l o ↔ x ∈ o ∨ x ∈ l
  | [], o, h => ⟨h, fun x => by simp [insAll]⟩
  | y :: r, o, h => by
    obtain ⟨g1, g2⟩ := insT_up h y
    obtain ⟨h1, h2⟩ := insAll_up r g1
    refine ⟨h1, fun x => (h2 x).trans ?_⟩
    rw [g2, List.mem_cons, or_assoc]
theorem compactT_insAll (l : List (List UInt8)) : Lib.compact (sortT l) = insAll l [] := by
  obtain ⟨h1, h2⟩ := compactT_up (sortT_up l)
  obtain ⟨h3, h4⟩ := insAll_up l (o := []) (by simp)
  exact up_extT h1 h3 fun k => by rw [h2, sortT_mem, h4]; simp

end Go.Proofs.YtnehhdcaknppnaaDoor
