/- Rows sorted and cut, by the kit's shelf; each number once. -/
import Derived.Test.YtnbjiigcldmgoaaSiSo
import Derived.Test.YtnbjiigcldmgoaaSiP
set_option maxRecDepth 8000
set_option linter.unusedSimpArgs false
set_option linter.unusedVariables false
namespace Go.Proofs.Ytnbjiigcldmgoaa
open Go Go.RowKit

set_option maxHeartbeats 1000000
/-- slices.Sort, at no element too -/
def q_sortA : Con := fun args H K => match args with
  | [.c .nils] => K (.tup []) H
  | [.c (.sl b i n)] => if n = 0 then K (.tup []) H else onv (H.b b) fun kb => i = 0 ∧ n ≤ 1000000 ∧ kb.ro = false ∧ kb.esz = 1 ∧ kb.els.length = n ∧ onv (eI.decL kb.els) fun zs => K (.tup []) (H.set b (reK kb ((sortI zs).map eI.cells)))
  | _ => False
@[simp ↓] theorem q_sortA_nils (H : AHeap) (K : AV → AHeap → Prop) : q_sortA [.c .nils] H K = K (.tup []) H := rfl
@[simp ↓] theorem q_sortA_eq (b i n : Nat) (H : AHeap) (K : AV → AHeap → Prop) : q_sortA [.c (.sl b i n)] H K = if n = 0 then K (.tup []) H else onv (H.b b) fun kb => i = 0 ∧ n ≤ 1000000 ∧ kb.ro = false ∧ kb.esz = 1 ∧ kb.els.length = n ∧ onv (eI.decL kb.els) fun zs => K (.tup []) (H.set b (reK kb ((sortI zs).map eI.cells))) := rfl
theorem sort_none {a : Option Addr} {cap : Nat} (w : World) : Calls Try.prog 75 #[.slice a 0 cap] w fun e w' => e = .returned (.tuple #[]) ∧ w' = w := Try.slices_Sort_int_none a cap w
theorem slices_SortA_s : Sound Try.prog 75 q_sortA := by
  intro args H K h
  unfold q_sortA at h
  split at h
  rotate_left
  · rename_i b i n
    by_cases hn : n = 0
    · subst hn
      rw [if_pos rfl] at h
      refine ⟨fun args w => enters_of Try.func75 (by kernel_rfl) rfl args w, fun φ B w vs hH hr => ?_⟩
      obtain ⟨v, rfl⟩ : ∃ v, vs = [v] := by
        match vs, hr with
        | [v], _ => exact ⟨v, rfl⟩
        | [], hr => exact hr.elim
        | _ :: _ :: _, hr => exact hr.2.elim
      obtain ⟨hb, a, cap, rfl, _⟩ := hr.1
      refine (sort_none w).mono ?_
      rintro e w' ⟨rfl, rfl⟩
      exact ⟨.tup [], _, φ, H, rfl, ⟨[], rfl, trivial⟩, hH, .refl _ _, Nat.le_refl _, fun _ _ => rfl, h⟩
    · rw [if_neg hn] at h
      refine slices_Sort___int_int_s _ H K ?_
      have h1 := onv_iff.1 h
      obtain ⟨kb, hk, h2, h3, h4, h5, h6, h7⟩ := h1
      rw [q_sort_eq]
      exact onv_iff.2 ⟨kb, hk, h2, by omega, h3, h4, h5, h6, h7⟩
  · exact h.elim
  · refine ⟨fun args w => enters_of Try.func75 (by kernel_rfl) rfl args w, fun φ B w vs hH hr => ?_⟩
    obtain ⟨v, rfl⟩ : ∃ v, vs = [v] := by
      match vs, hr with
      | [v], _ => exact ⟨v, rfl⟩
      | [], hr => exact hr.elim
      | _ :: _ :: _, hr => exact hr.2.elim
    obtain ⟨a, rfl⟩ := hr.1
    refine (sort_none w).mono ?_
    rintro e w' ⟨rfl, rfl⟩
    exact ⟨.tup [], _, φ, H, rfl, ⟨[], rfl, trivial⟩, hH, .refl _ _, Nat.le_refl _, fun _ _ => rfl, h⟩
/-- slices.Compact: what is cut off is forgotten -/
def q_compact : Con := fun args H K => match args with
  | [.c (.sl b i n)] => if n = 0 then K (.c (.sl b i 0)) H else onv (H.b b) fun kb => i = 0 ∧ n ≤ 1000000 ∧ kb.ro = false ∧ kb.esz = 1 ∧ kb.els.length = n ∧ onv (eI.decL kb.els) fun zs => K (.c (.sl b 0 (Lib.compact zs).length)) (H.set b (reK kb ((Lib.compact zs).map eI.cells)))
  | _ => False
@[simp ↓] theorem q_compact_eq (b i n : Nat) (H : AHeap) (K : AV → AHeap → Prop) : q_compact [.c (.sl b i n)] H K = if n = 0 then K (.c (.sl b i 0)) H else onv (H.b b) fun kb => i = 0 ∧ n ≤ 1000000 ∧ kb.ro = false ∧ kb.esz = 1 ∧ kb.els.length = n ∧ onv (eI.decL kb.els) fun zs => K (.c (.sl b 0 (Lib.compact zs).length)) (H.set b (reK kb ((Lib.compact zs).map eI.cells))) := rfl
theorem compact_none {a : Option Addr} {cap : Nat} (w : World) : Calls Try.prog 76 #[.slice a 0 cap] w fun e w' => e = .returned (.slice a 0 cap) ∧ w' = w := Try.slices_Compact_int_empty a cap w
theorem slices_Compact_s : Sound Try.prog 76 q_compact := by
  intro args H K h
  unfold q_compact at h
  split at h
  rotate_left
  · exact h.elim
  rename_i b i n
  by_cases hn : n = 0
  · subst hn
    rw [if_pos rfl] at h
    refine ⟨fun args w => enters_of Try.func76 (by kernel_rfl) rfl args w, fun φ B w vs hH hr => ?_⟩
    obtain ⟨v, rfl⟩ : ∃ v, vs = [v] := by
      match vs, hr with
      | [v], _ => exact ⟨v, rfl⟩
      | [], hr => exact hr.elim
      | _ :: _ :: _, hr => exact hr.2.elim
    obtain ⟨hb, a, cap, rfl, hr2⟩ := hr.1
    refine (compact_none w).mono ?_
    rintro e w' ⟨rfl, rfl⟩
    exact ⟨.c (.sl b i 0), _, φ, H, rfl, ⟨hb, a, cap, rfl, hr2⟩, hH, .refl _ _, Nat.le_refl _, fun _ _ => rfl, h⟩
  rw [if_neg hn] at h
  have h1 := onv_iff.1 h
  clear h
  obtain ⟨kb, hk, rfl, hn2, hro, hesz, hlen, h⟩ := h1
  have h1 := onv_iff.1 h
  clear h
  obtain ⟨zs, hz, h⟩ := h1
  have he := Enc.decL_eq eI hz
  have hzl : zs.length = n := by rw [← hlen, he, List.length_map]
  refine ⟨fun args w => enters_of Try.func76 (by kernel_rfl) rfl args w, fun φ B w vs hH hr => ?_⟩
  obtain ⟨v, rfl⟩ : ∃ v, vs = [v] := by
    match vs, hr with
    | [v], _ => exact ⟨v, rfl⟩
    | [], hr => exact hr.elim
    | _ :: _ :: _, hr => exact hr.2.elim
  obtain ⟨hb, a, cap, rfl, hcap, hcap2, ha⟩ := hr.1
  obtain rfl := ha (by omega)
  have hphi : 0 < (φ b).cap := by omega
  have hown := hH.own b kb hk hro hphi
  have hc := hH.cells b kb hk
  obtain ⟨cs, fz, hrow, hsz, hfz, hfr⟩ := hown.row
  have hesz' : (φ b).esz = 1 := hc.esz.trans hesz
  have hcc := hc.cap
  rw [hesz', Nat.mul_one] at hsz
  have hadr : ∀ j, (φ b).adr j 0 = ⟨(φ b).blk, 0 + j, none⟩ := fun j => by simp [Place.adr, hown.off, hesz']
  have hcell : ∀ j (hj : j < zs.length), w.cell? ⟨(φ b).blk, 0 + j, none⟩ = some (.int .i64 zs[j]) := fun j hj => by
    obtain ⟨v, h1, h2⟩ := hc.cell j (eI.cells zs[j]) (by rw [he, List.getElem?_map, List.getElem?_eq_getElem hj]; rfl) 0 (.int .i64 zs[j]) rfl
    rw [hadr] at h1
    rw [h1, show v = .int .i64 zs[j] from h2]
  have hHo : Go.Sort.Holds (Value.int .i64) w (φ b).blk 0 zs.toArray := fun j hj => by
    have hj' : j < zs.length := by simpa using hj
    refine ⟨by rw [hcell j hj']; simp [hj'], ?_⟩
    have := hfr j (by omega)
    simp only [World.frozen?, hrow, Nat.zero_add]
    simpa using this
  have hblk : (φ b).blk < w.heap.size := (Array.getElem?_eq_some_iff.1 hrow).1
  rw [hadr 0]
  have hcl := Lib.compact_length_le zs
  have main := Try.slices_Compact_int (φ b).blk 0 cap zs w hHo (by omega) (by omega)
  rw [hzl] at main
  refine main.mono ?_
  rintro e w' ⟨rfl, m, rfl⟩
  have hyl : (Lib.compact zs ++ List.replicate (n - (Lib.compact zs).length) 0).length = zs.length := by simp; omega
  have hlow : ∀ i (hi : i < (Lib.compact zs).length), (Lib.compact zs ++ List.replicate (n - (Lib.compact zs).length) (0 : Int))[i]? = some (Lib.compact zs)[i] := fun i hi => by rw [List.getElem?_append_left hi, List.getElem?_eq_getElem hi]
  generalize hys : (Lib.compact zs ++ List.replicate (n - (Lib.compact zs).length) (0 : Int)) = ys at hyl hlow
  have hoth : ∀ c, c ≠ (φ b).blk → (Go.Sort.putRow (Value.int .i64) (Go.Sort.ahead w m) (φ b).blk 0 ys.toArray).heap[c]? = w.heap[c]? := fun c hc' => by
    simp [Go.Sort.putRow, Go.Sort.mapBlock, Go.Sort.ahead, Array.getElem?_modify, Ne.symm hc']
  have hrow1 : (Go.Sort.putRow (Value.int .i64) (Go.Sort.ahead w m) (φ b).blk 0 ys.toArray).heap[(φ b).blk]? = some (.cells (Go.Sort.putCells (Value.int .i64) 0 ys.toArray cs) kb.ty fz) := by
    simp [Go.Sort.putRow, Go.Sort.mapBlock, Go.Sort.ahead, Array.getElem?_modify, hrow, Go.Sort.onCells]
  have hsz1 : (Go.Sort.putRow (Value.int .i64) (Go.Sort.ahead w m) (φ b).blk 0 ys.toArray).heap.size = w.heap.size := by simp [Go.Sort.ahead]
  have hbl : Kept B w (Go.Sort.putRow (Value.int .i64) (Go.Sort.ahead w m) (φ b).blk 0 ys.toArray) :=
    ⟨⟨rfl, rfl, rfl, by rw [hsz1]; exact Nat.le_refl _, fun k hk' => hoth k (by have := hown.base; omega)⟩, fun c hc' => hoth c fun e => hown.out (e ▸ hc')⟩
  have hc' : BCells φ H.n (φ b) (reK kb ((Lib.compact zs).map eI.cells)) (Go.Sort.putRow (Value.int .i64) (Go.Sort.ahead w m) (φ b).blk 0 ys.toArray) := by
    refine ⟨hc.esz, by simp only [reK_els, List.length_map]; omega, fun i e hi => ?_, fun i e hi j x hx => ?_⟩
    · simp only [reK_els, List.getElem?_map, Option.map_eq_some_iff] at hi
      obtain ⟨y, _, rfl⟩ := hi
      rw [reK_esz, hesz]; rfl
    · simp only [reK_els, List.getElem?_map, Option.map_eq_some_iff] at hi
      obtain ⟨y, hy, rfl⟩ := hi
      obtain ⟨hiy, rfl⟩ := List.getElem?_eq_some_iff.1 hy
      have hl := hlow i hiy
      obtain ⟨hiy2, hl2⟩ := List.getElem?_eq_some_iff.1 hl
      match j, hx with
      | 0, hx =>
        cases hx
        refine ⟨.int .i64 ys[i], ?_, by rw [hl2]; rfl⟩
        rw [hadr, Go.Sort.cell?_putRow (Value.int .i64) (Go.Sort.ahead w m) (φ b).blk 0 zs.toArray ys.toArray hHo (by simp [hyl]) i (by simpa using hiy2)]
        simp [hiy2]
      | j + 1, hx => cases hx
  have hH1 := hH.stored (k' := reK kb ((Lib.compact zs).map eI.cells)) hk hro hphi rfl rfl hro hsz1 hoth hrow1 ⟨cs, hrow, by simp [Go.Sort.putCells]⟩ hbl hc'
  exact ⟨.c (.sl b 0 (Lib.compact zs).length), _, φ, H.set b (reK kb ((Lib.compact zs).map eI.cells)), rfl, ⟨hb, _, cap, rfl, by omega, hcap2, fun _ => by rw [hadr 0]⟩, hH1, hbl, Nat.le_refl _, fun _ _ => rfl, h⟩
/-! ### rising rows -/
theorem up_extI : ∀ {L M : List Int}, L.Pairwise (· < ·) → M.Pairwise (· < ·) → (∀ k, k ∈ L ↔ k ∈ M) → L = M
  | [], [], _, _, _ => rfl
  | [], m :: M, _, _, h => absurd ((h m).2 (by simp)) (by simp)
  | l :: L, [], _, _, h => absurd ((h l).1 (by simp)) (by simp)
  | l :: L, m :: M, hl, hm, h => by
    rw [List.pairwise_cons] at hl hm
    have h1 := (h l).1 (by simp)
    have h2 := (h m).2 (by simp)
    have hlm : l = m := by
      rcases List.mem_cons.1 h1 with rfl | h1
      · rfl
      · rcases List.mem_cons.1 h2 with rfl | h2
        · rfl
        · have := hm.1 l h1
          have := hl.1 m h2
          omega
    subst hlm
    rw [up_extI hl.2 hm.2 fun k => ⟨fun hk => ?_, fun hk => ?_⟩]
    · rcases List.mem_cons.1 ((h k).1 (by simp [hk])) with rfl | h3
      · exact absurd (hl.1 k hk) (Int.lt_irrefl k)
      · exact h3
    · rcases List.mem_cons.1 ((h k).2 (by simp [hk])) with rfl | h3
      · exact absurd (hm.1 k hk) (Int.lt_irrefl k)
      · exact h3
theorem sortI_up (zs : List Int) : (sortI zs).Pairwise (· ≤ ·) := by
  have hs : (sortI zs).Pairwise (fun x y => decide (x ≤ y) = true) := List.pairwise_mergeSort (fun a b c h1 h2 => by simp only [decide_eq_true_eq] at *; omega) (fun a b => by simp only [Bool.or_eq_true, decide_eq_true_eq]; omega) _
  exact hs.imp fun {a b} h => by simpa using h
theorem sortI_mem (zs : List Int) (x : Int) : x ∈ sortI zs ↔ x ∈ zs := (List.mergeSort_perm _ _).mem_iff
/-- of a row in order: each number once -/
theorem compact_up {zs : List Int} (h : zs.Pairwise (· ≤ ·)) : (Lib.compact zs).Pairwise (· < ·) ∧ ∀ x, x ∈ Lib.compact zs ↔ x ∈ zs := by
  have hle : ∀ i j, i ≤ j → j < zs.length → zs.toArray[i]! ≤ zs.toArray[j]! := fun i j hij hj => by
    have hi : i < zs.length := by omega
    have e1 : zs.toArray[i]! = zs[i] := by simp [hi]
    have e2 : zs.toArray[j]! = zs[j] := by simp [hj]
    rw [e1, e2]
    rcases Nat.lt_or_ge i j with h1 | h1
    · exact List.pairwise_iff_getElem.1 h i j hi hj h1
    · obtain rfl : i = j := by omega
      exact Int.le_refl _
  have main : ∀ m, m ≤ zs.length → (Lib.compactUpTo zs.toArray m).Pairwise (· < ·) ∧ ∀ x, x ∈ Lib.compactUpTo zs.toArray m ↔ ∃ j, j < m ∧ zs.toArray[j]! = x := by
    intro m
    induction m with
    | zero => exact fun _ => ⟨by simp [Lib.compactUpTo], fun x => by simp [Lib.compactUpTo]⟩
    | succ m ih =>
      intro hm
      obtain ⟨h1, h2⟩ := ih (by omega)
      rw [Lib.compactUpTo_succ]
      by_cases hk : Lib.keeps zs.toArray m = true
      · rw [if_pos hk]
        refine ⟨List.pairwise_append.2 ⟨h1, by simp, fun a ha b hb => ?_⟩, fun x => ?_⟩
        · rw [List.mem_singleton.1 hb]
          obtain ⟨j, hj, rfl⟩ := (h2 a).1 ha
          have g1 := hle j (m - 1) (by omega) (by omega)
          have g2 := hle (m - 1) m (by omega) (by omega)
          have g3 : zs.toArray[m]! ≠ zs.toArray[m - 1]! := fun e => by
            rw [Lib.keeps_neg (by omega) e] at hk; cases hk
          omega
        · rw [List.mem_append, List.mem_singleton, h2]
          constructor
          · rintro (⟨j, hj, rfl⟩ | rfl)
            · exact ⟨j, by omega, rfl⟩
            · exact ⟨m, by omega, rfl⟩
          · rintro ⟨j, hj, rfl⟩
            rcases Nat.lt_or_ge j m with g | g
            · exact .inl ⟨j, g, rfl⟩
            · exact .inr (by rw [show j = m by omega])
      · rw [if_neg hk]
        simp only [List.append_nil]
        refine ⟨h1, fun x => (h2 x).trans ⟨fun ⟨j, hj, e⟩ => ⟨j, by omega, e⟩, fun ⟨j, hj, e⟩ => ?_⟩⟩
        rcases Nat.lt_or_ge j m with g | g
        · exact ⟨j, g, e⟩
        · obtain rfl : j = m := by omega
          have h0 : 0 < j := by
            rcases Nat.eq_zero_or_pos j with rfl | h0
            · exact absurd (Lib.keeps_lt_one _ 0 (by omega)) hk
            · exact h0
          refine ⟨j - 1, by omega, ?_⟩
          rw [← e]
          by_cases hne : zs.toArray[j]! = zs.toArray[j - 1]!
          · exact hne.symm
          · exact absurd (Lib.keeps_pos hne) hk
  obtain ⟨h1, h2⟩ := main zs.length (Nat.le_refl _)
  refine ⟨h1, fun x => (h2 x).trans ⟨fun ⟨j, hj, e⟩ => ?_, fun hx => ?_⟩⟩
  · rw [← e]; simp [hj]
  · obtain ⟨j, hj, rfl⟩ := List.getElem_of_mem hx
    exact ⟨j, hj, by simp [hj]⟩
theorem putI_cons (x n : Int) (r : List Int) : putI (x :: r) n = if x < n then x :: putI r n else if x = n then x :: r else n :: x :: r := by
  by_cases h1 : x < n
  · have h2 : ltI n x = true := by simp [ltI, h1]
    have h3 : hasP (x :: r) n = hasP r n := by simp [hasP, List.dropWhile_cons, h2]
    rw [if_pos h1, putI, putI, h3]
    split
    · rfl
    · simp [List.takeWhile_cons, List.dropWhile_cons, h2]
  · have h2 : ltI n x = false := by simp [ltI, h1]
    rw [if_neg h1]
    by_cases h3 : x = n
    · have h4 : hasP (x :: r) n = true := by subst h3; simp [hasP, List.dropWhile_cons, h2]
      rw [if_pos h3, putI, if_pos h4]
    · have h4 : hasP (x :: r) n = false := by simp [hasP, List.dropWhile_cons, h2, h3]
      rw [if_neg h3, putI, if_neg (by simp [h4])]
      simp [List.takeWhile_cons, List.dropWhile_cons, h2]
theorem putI_mem (n : Int) : ∀ (l : List Int) (x : Int), x ∈ putI l n ↔ x ∈ l ∨ x = n
  | [], x => by simp [putI, hasP]
  | y :: r, x => by
    rw [putI_cons]
    split
    · simp [putI_mem n r x, or_assoc]
    · split
      · rename_i h; subst h; simp; intro e; exact .inl e
      · simp only [List.mem_cons]; constructor
        · exact fun h => h.elim .inr fun h => .inl h
        · exact fun h => h.elim .inr .inl
theorem putI_up (n : Int) : ∀ {l : List Int}, l.Pairwise (· < ·) → (putI l n).Pairwise (· < ·)
  | [], _ => by simp [putI, hasP]
  | y :: r, h => by
    rw [putI_cons]
    rw [List.pairwise_cons] at h
    split
    · rename_i h1
      refine List.pairwise_cons.2 ⟨fun z hz => ?_, putI_up n h.2⟩
      rcases (putI_mem n r z).1 hz with hz | rfl
      · exact h.1 z hz
      · exact h1
    · split
      · exact List.pairwise_cons.2 h
      · rename_i h1 h2
        refine List.pairwise_cons.2 ⟨fun z hz => ?_, List.pairwise_cons.2 h⟩
        rcases List.mem_cons.1 hz with rfl | hz
        · omega
        · have := h.1 z hz; omega
/-- all numbers put to their places -/
def putAll : List Int → List Int → List Int
  | [], o => o
  | x :: r, o => putAll r (putI o x)
theorem putAll_up : ∀ (l : List Int) {o : List Int}, o.Pairwise (· < ·) → (putAll l o).Pairwise (· < ·) ∧ ∀ x, x ∈ putAll l o ↔ x ∈ o ∨ x ∈ l
  | [], o, h => ⟨h, fun x => by simp [putAll]⟩
  | y :: r, o, h => by
    obtain ⟨h1, h2⟩ := putAll_up r (putI_up y h)
    refine ⟨h1, fun x => (h2 x).trans ?_⟩
    rw [putI_mem, List.mem_cons, or_assoc]
theorem compact_putAll (l : List Int) : Lib.compact (sortI l) = putAll l [] := by
  obtain ⟨h1, h2⟩ := compact_up (sortI_up l)
  obtain ⟨h3, h4⟩ := putAll_up l (o := []) (by simp)
  exact up_extI h1 h3 fun k => by rw [h2, sortI_mem, h4]; simp
theorem putI_len (l : List Int) (n : Int) : (putI l n).length ≤ l.length + 1 := by
  induction l with
  | nil => simp [putI, hasP]
  | cons y r ih =>
    rw [putI_cons]
    split
    · simp only [List.length_cons]; omega
    · split <;> simp

end Go.Proofs.Ytnbjiigcldmgoaa
