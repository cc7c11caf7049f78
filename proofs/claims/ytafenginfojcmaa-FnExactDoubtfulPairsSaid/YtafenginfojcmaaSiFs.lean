/- Rows of two numbers put in order, by the kit's shelf. -/
import Derived.Test.YtafenginfojcmaaTkII
import Derived.Test.YtafenginfojcmaaSiSo
import Derived.WalkKit
import Derived.Deep.LoopGhost
import Derived.Lib.RowBridge
set_option maxRecDepth 8000
set_option linter.unusedSimpArgs false
set_option linter.unusedVariables false
namespace Go.Proofs.Ytafenginfojcmaa
open Go Go.RowKit

set_option maxRecDepth 100000
set_option maxHeartbeats 4000000
open Go.Proofs Go.Shelf Go.Lib
def cmp2 (x1 x2 y1 y2 : Int) : Int := if Lib.compareInt x1 y1 = 0 then Lib.compareInt x2 y2 else Lib.compareInt x1 y1
theorem cmp2_walk (b1 o1 c1 b2 o2 c2 : Nat) (x1 x2 y1 y2 : Int) (W : World) (h1 : W.cell? ⟨b1, o1, none⟩ = some (.int .i64 x1)) (h2 : W.cell? ⟨b1, o1 + 1, none⟩ = some (.int .i64 x2)) (h3 : W.cell? ⟨b2, o2, none⟩ = some (.int .i64 y1)) (h4 : W.cell? ⟨b2, o2 + 1, none⟩ = some (.int .i64 y2)) :
    Calls Try.prog 49 #[.slice (some ⟨b1, o1, none⟩) 2 c1, .slice (some ⟨b2, o2, none⟩) 2 c2] W fun e w' => e = .returned (.int .i64 (cmp2 x1 x2 y1 y2)) ∧ w' = W := by
  have hc1 := Try.cmp_Compare_int x1 y1 W
  have hc2 := Try.cmp_Compare_int x2 y2 W
  unfold cmp2
  generalize Lib.compareInt x1 y1 = r1 at hc1 ⊢
  generalize Lib.compareInt x2 y2 = r2 at hc2 ⊢
  by_cases hr1 : r1 = 0
  · subst hr1
    by_cases hr2 : r2 = 0
    · subst hr2
      go_enter Try.func49, Try.ntmps49
      go_wp2
      refine wp_loop_rounds 3 ?_
      rw [rounds_succ]
      go_wp2_with (go_at_call 73; refine hc1.mono ?_; rintro e w' ⟨rfl, rfl⟩)
      rw [rounds_succ]
      go_wp2_with (go_at_call 73; refine hc2.mono ?_; rintro e w' ⟨rfl, rfl⟩)
      rw [rounds_succ]
      go_wp2
      go_ret
      exact ⟨rfl, rfl⟩
    · go_enter Try.func49, Try.ntmps49
      go_wp2
      refine wp_loop_rounds 3 ?_
      rw [rounds_succ]
      go_wp2_with (go_at_call 73; refine hc1.mono ?_; rintro e w' ⟨rfl, rfl⟩)
      rw [rounds_succ]
      go_wp2_with (go_at_call 73; refine hc2.mono ?_; rintro e w' ⟨rfl, rfl⟩)
      go_ret
      exact ⟨rfl, rfl⟩
  · go_enter Try.func49, Try.ntmps49
    go_wp2
    refine wp_loop_rounds 3 ?_
    rw [rounds_succ]
    go_wp2_with (go_at_call 73; refine hc1.mono ?_; rintro e w' ⟨rfl, rfl⟩)
    go_ret
    exact ⟨rfl, rfl⟩
/-- before, row by row -/
def lexL (p q : List Int) : Prop := ∃ a b c d, p = [a, b] ∧ q = [c, d] ∧ (a < c ∨ (a = c ∧ b ≤ d))
def rcmp (p q : List Int) : Int := cmp2 (p.getD 0 0) (p.getD 1 0) (q.getD 0 0) (q.getD 1 0)
theorem cmpI_lt (x y : Int) : Lib.compareInt x y < 0 ↔ x < y := by
  unfold Lib.compareInt
  by_cases h1 : x < y
  · simp [h1]
  · by_cases h2 : y < x <;> simp [h1, h2]
theorem cmpI_0 (x y : Int) : Lib.compareInt x y = 0 ↔ x = y := by
  unfold Lib.compareInt
  by_cases h1 : x < y
  · simp [h1]; omega
  · by_cases h2 : y < x
    · simp [h1, h2]; omega
    · simp [h1, h2]; omega
theorem cmp2_lt (a b c d : Int) : cmp2 a b c d < 0 ↔ a < c ∨ (a = c ∧ b < d) := by
  unfold cmp2
  by_cases h : Lib.compareInt a c = 0
  · rw [if_pos h, cmpI_lt]
    have := (cmpI_0 a c).1 h
    omega
  · rw [if_neg h, cmpI_lt]
    have : ¬ a = c := fun e => h ((cmpI_0 a c).2 e)
    omega
theorem len2 {p : List Int} (h : p.length = 2) : ∃ a b, p = [a, b] := by
  match p, h with
  | [a, b], _ => exact ⟨a, b, rfl⟩
def q_sortF : Con := fun args H K => match args with
  | [.c (.sl b i n), .c (.fn g l)] => Stop (∃ cs rows, l = [] ∧ g = 49 ∧ i = 0 ∧ n = rows.length ∧ IIRows H b cs rows ∧ rows.Nodup ∧ (∀ p ∈ rows, p.length = 2) ∧ rows.length ≤ 1000000 ∧ ∀ cs' rows', rows'.Perm rows → rows'.Pairwise lexL → (∀ c ∈ cs', c ∈ cs) → IIRows (H.set b (iiK cs' rows')) b cs' rows' → K (.tup []) (H.set b (iiK cs' rows'))) ()
  | _ => False
@[simp ↓] theorem q_sortF_eq (b i n g : Nat) (l : List Nat) (H : AHeap) (K : AV → AHeap → Prop) : q_sortF [.c (.sl b i n), .c (.fn g l)] H K = Stop (∃ cs rows, l = [] ∧ g = 49 ∧ i = 0 ∧ n = rows.length ∧ IIRows H b cs rows ∧ rows.Nodup ∧ (∀ p ∈ rows, p.length = 2) ∧ rows.length ≤ 1000000 ∧ ∀ cs' rows', rows'.Perm rows → rows'.Pairwise lexL → (∀ c ∈ cs', c ∈ cs) → IIRows (H.set b (iiK cs' rows')) b cs' rows' → K (.tup []) (H.set b (iiK cs' rows'))) () := rfl
/-- rows in another order: the heap -/
theorem IIRows.perm {H : AHeap} {b : Nat} {cs : List Nat} {rows : List (List Int)} (h : IIRows H b cs rows) {s : List (Fin rows.length)} (hs : s.Perm (List.finRange rows.length)) (hcl : ∀ j : Fin rows.length, j.val < cs.length) :
    IIRows (H.set b (iiK (s.map fun j => cs[j.val]'(hcl j)) (s.map fun j => rows[j]))) b (s.map fun j => cs[j.val]'(hcl j)) (s.map fun j => rows[j]) := by
  have hnd : s.Nodup := hs.symm.nodup (List.nodup_finRange _)
  have hmem : ∀ c ∈ (s.map fun j => cs[j.val]'(hcl j)), c ∈ cs := fun c hc => by
    obtain ⟨j, _, rfl⟩ := List.mem_map.1 hc
    exact List.getElem_mem _
  refine ⟨by simp, ?_, fun hc => h.nb (hmem _ hc), by rw [set_b, if_pos rfl], fun j c g hc hg => ?_⟩
  · rw [List.nodup_iff_pairwise_ne, List.pairwise_map]
    exact hnd.imp fun {x y} hxy e => hxy (Fin.ext ((List.getElem?_inj (hcl x) h.nd).1 (by rw [List.getElem?_eq_getElem (hcl x), List.getElem?_eq_getElem (hcl y), e])))
  · rw [List.getElem?_map, Option.map_eq_some_iff] at hc hg
    obtain ⟨x, hx, rfl⟩ := hc
    obtain ⟨y, hy, rfl⟩ := hg
    rw [hx] at hy
    cases hy
    rw [set_b, if_neg (show ¬ cs[x.val]'(hcl x) = b from fun e => h.nb (e ▸ List.getElem_mem (hcl x)))]
    exact h.row x.val _ _ (List.getElem?_eq_getElem _) (List.getElem?_eq_getElem _)

theorem slices_SortFunc_____int___int_s : Sound Try.prog 48 q_sortF := by
  intro args H K h
  unfold q_sortF at h
  split at h
  rotate_left
  all_goals first | exact False.elim h | skip
  rename_i b i n g l
  obtain ⟨cs, rows, rfl, rfl, rfl, rfl, hrows, hnd, hl2, hn2, h⟩ := Stop.go h
  refine ⟨fun args w => enters_of Try.func48 (by kernel_rfl) rfl args w, fun φ B w vs hH hr => ?_⟩
  obtain ⟨v, u, rfl⟩ : ∃ v u, vs = [v, u] := by
    match vs, hr with
    | [v, u], _ => exact ⟨v, u, rfl⟩
    | [], hr => exact hr.elim
    | [_], hr => exact hr.2.elim
    | _ :: _ :: _ :: _, hr => exact hr.2.2.elim
  obtain ⟨hr1, hr2, _⟩ := hr
  obtain ⟨hb, a, cap, rfl, hcap, hcap2, ha⟩ := hr1
  obtain ⟨_, rfl⟩ := hr2
  have hlc := hrows.len
  rcases Nat.eq_zero_or_pos rows.length with h0 | hpos
  · have hre : rows = [] := List.eq_nil_of_length_eq_zero h0
    subst hre
    have hce : cs = [] := List.eq_nil_of_length_eq_zero hlc
    subst hce
    have main := Try.slices_SortFunc_none (α := Unit) a cap (.func (.func 49) #[] #[]) w
    refine main.mono ?_
    rintro e w' ⟨rfl, rfl⟩
    have hs : H.set b (iiK [] []) = H := set_self hrows.blk
    have hk := h [] [] (.refl _) .nil (fun _ h => h) (by rw [hs]; exact hrows)
    rw [hs] at hk
    exact ⟨.tup [], _, φ, H, rfl, ⟨[], rfl, trivial⟩, hH, .refl _ _, Nat.le_refl _, fun _ _ => rfl, hk⟩
  obtain rfl := ha (by omega)
  have hk := hrows.blk
  have hphi : 0 < (φ b).cap := by omega
  have hown := hH.own b _ hk rfl hphi
  have hc := hH.cells b _ hk
  obtain ⟨csv, fz, hrow, hsz, hfz, hfr⟩ := hown.row
  have hesz' : (φ b).esz = 1 := hc.esz
  have hcc := hc.cap
  rw [hesz', Nat.mul_one] at hsz
  have hadr : ∀ j, (φ b).adr j 0 = ⟨(φ b).blk, 0 + j, none⟩ := fun j => by simp [Place.adr, hown.off, hesz']
  have hcl : ∀ j : Fin rows.length, j.val < cs.length := fun j => by rw [hlc]; exact j.2
  have hval : ∀ j : Fin rows.length, ∃ v, w.cell? ⟨(φ b).blk, 0 + j.val, none⟩ = some v ∧ RepC φ H.n (.sl (cs[j.val]'(hcl j)) 0 rows[j].length) v := fun j => by
    obtain ⟨v, h1, h2⟩ := hc.cell j.val [.sl (cs[j.val]'(hcl j)) 0 rows[j].length] (by
      have e1 : cs[j.val]? = some (cs[j.val]'(hcl j)) := List.getElem?_eq_getElem _
      have e2 : rows[j.val]? = some rows[j] := List.getElem?_eq_getElem _
      rw [iiK_els, List.getElem?_zipWith, e1, e2]) 0 _ rfl
    rw [hadr] at h1
    exact ⟨v, h1, h2⟩
  obtain ⟨enc, henc⟩ : ∃ enc : Fin rows.length → Value, ∀ j : Fin rows.length, w.cell? ⟨(φ b).blk, 0 + j.val, none⟩ = some (enc j) ∧ RepC φ H.n (.sl (cs[j.val]'(hcl j)) 0 rows[j].length) (enc j) := ⟨fun j => Classical.choose (hval j), fun j => Classical.choose_spec (hval j)⟩
  haveI : Inhabited (Fin rows.length) := ⟨⟨0, hpos⟩⟩
  obtain ⟨d, hd⟩ : ∃ d : Array (Fin rows.length), d.toList = List.finRange rows.length := ⟨(List.finRange rows.length).toArray, rfl⟩
  have hds : d.size = rows.length := by rw [← Array.length_toList, hd, List.length_finRange]
  have hdj : ∀ (j : Nat) (hj : j < rows.length), d[j]! = ⟨j, hj⟩ := fun j hj => by
    rw [getElem!_pos d j (by omega), ← Array.getElem_toList]
    simp [hd]
  have hHo : Go.Sort.Holds enc w (φ b).blk 0 d := fun j hj => by
    have hj' : j < rows.length := by omega
    rw [hdj j hj']
    refine ⟨(henc ⟨j, hj'⟩).1, ?_⟩
    have := hfr j (by omega)
    simp only [World.frozen?, hrow, Nat.zero_add]
    simpa using this
  have hblk : (φ b).blk < w.heap.size := (Array.getElem?_eq_some_iff.1 hrow).1
  have hin : ∀ j : Fin rows.length, ∃ bl o cp, enc j = .slice (some ⟨bl, o, none⟩) 2 cp ∧ w.cell? ⟨bl, o, none⟩ = some (.int .i64 (rows[j].getD 0 0)) ∧ w.cell? ⟨bl, o + 1, none⟩ = some (.int .i64 (rows[j].getD 1 0)) ∧ bl ≠ (φ b).blk := fun j => by
    obtain ⟨p, q, hpq⟩ := len2 (hl2 rows[j] (List.getElem_mem _))
    obtain ⟨_, a, cp, h1, h2, h3, h4⟩ := (henc j).2
    have hrj := hrows.row j.val _ rows[j] (List.getElem?_eq_getElem (hcl j)) (List.getElem?_eq_getElem _)
    rw [hpq] at h1 h2 hrj ⊢
    have h2' : 2 ≤ cp := h2
    obtain rfl := h4 (by omega)
    have hcj := hH.cells _ _ hrj
    have hej : (φ (cs[j.val]'(hcl j))).esz = 1 := hcj.esz
    refine ⟨(φ (cs[j.val]'(hcl j))).blk, (φ (cs[j.val]'(hcl j))).off, cp, ?_, ?_, ?_, ?_⟩
    · rw [h1]; simp [Place.adr]
    · obtain ⟨v, g1, g2⟩ := hcj.cell 0 [.int .i64 p] rfl 0 _ rfl
      rw [show v = .int .i64 p from g2] at g1
      simpa [Place.adr] using g1
    · obtain ⟨v, g1, g2⟩ := hcj.cell 1 [.int .i64 q] rfl 0 _ rfl
      rw [show v = .int .i64 q from g2] at g1
      simpa [Place.adr, hej] using g1
    · intro e
      refine hrows.nb ?_
      have := hH.apart _ _ _ _ hrj hk rfl rfl (by omega) hphi e
      rw [← this]
      exact List.getElem_mem _
  have hkeep : ∀ (m : Nat) (os : Array Obj) (dk : Array (Fin rows.length)) (bl o : Nat) (v : Value), bl ≠ (φ b).blk → w.cell? ⟨bl, o, none⟩ = some v → (Go.Proofs.sortWorld enc w (φ b).blk 0 m dk os).cell? ⟨bl, o, none⟩ = some v := fun m os dk bl o v hne hv => by
    have hlt : bl < w.heap.size := by
      simp only [World.cell?] at hv
      rcases Nat.lt_or_ge bl w.heap.size with h | h
      · exact h
      · rw [Array.getElem?_eq_none (by omega)] at hv; cases hv
    have e : (Go.Proofs.sortWorld enc w (φ b).blk 0 m dk os).heap[bl]? = w.heap[bl]? := by
      simp only [Go.Proofs.sortWorld, Go.Sort.grow]
      rw [Array.getElem?_append_left (by simp [Go.Sort.putRow, Go.Sort.mapBlock, Go.Sort.ahead]; omega)]
      simp [Go.Sort.putRow, Go.Sort.mapBlock, Go.Sort.ahead, Array.getElem?_modify, Ne.symm hne]
    simp only [World.cell?, e]
    exact hv
  have hcmp : CmpLays1 Try.prog 49 #[] enc (fun x y => rcmp rows[x] rows[y]) (φ b).blk 0 d.size w := fun m os dk hs x y => by
    obtain ⟨bx, ox, cx, ex, x1, x2, xn⟩ := hin x
    obtain ⟨bb, oy, cy, ey, y1, y2, yn⟩ := hin y
    rw [ex, ey]
    exact (cmp2_walk bx ox cx bb oy cy _ _ _ _ _ (hkeep m os dk _ _ _ xn x1) (hkeep m os dk _ _ _ xn x2) (hkeep m os dk _ _ _ yn y1) (hkeep m os dk _ _ _ yn y2)).mono fun e w' ⟨he, hw⟩ => ⟨he, 0, #[], by rw [hw, Go.Sort.grow_empty]; rfl⟩
  have hlt : ∀ x y : Fin rows.length, Go.Proofs.ltOf (fun x y : Fin rows.length => rcmp rows[x] rows[y]) x y = true ↔ rows[x].getD 0 0 < rows[y].getD 0 0 ∨ (rows[x].getD 0 0 = rows[y].getD 0 0 ∧ rows[x].getD 1 0 < rows[y].getD 1 0) := fun x y => by
    unfold Go.Proofs.ltOf rcmp
    rw [decide_eq_true_eq, cmp2_lt]
  have hltn : ∀ x y : Fin rows.length, Go.Proofs.ltOf (fun x y : Fin rows.length => rcmp rows[x] rows[y]) x y = false ↔ ¬ (rows[x].getD 0 0 < rows[y].getD 0 0 ∨ (rows[x].getD 0 0 = rows[y].getD 0 0 ∧ rows[x].getD 1 0 < rows[y].getD 1 0)) := fun x y => by
    rw [← hlt, Bool.not_eq_true]
  have hO : Go.Sort.SWO (Go.Proofs.ltOf (fun x y : Fin rows.length => rcmp rows[x] rows[y])) := ⟨fun x => (hltn x x).2 (by omega), fun x y z h1 h2 => (hlt x z).2 (by have g1 := (hlt x y).1 h1; have g2 := (hlt y z).1 h2; omega), fun x y z h1 h2 => (hltn x z).2 (by have g1 := (hltn x y).1 h1; have g2 := (hltn y z).1 h2; omega)⟩
  have hT : ∀ x y : Fin rows.length, Go.Proofs.ltOf (fun x y : Fin rows.length => rcmp rows[x] rows[y]) x y = false → Go.Proofs.ltOf (fun x y : Fin rows.length => rcmp rows[x] rows[y]) y x = false → x = y := fun x y h1 h2 => by
    have g1 := (hltn x y).1 h1
    have g2 := (hltn y x).1 h2
    obtain ⟨p, q, hx⟩ := len2 (hl2 rows[x] (List.getElem_mem _))
    obtain ⟨r, s, hy⟩ := len2 (hl2 rows[y] (List.getElem_mem _))
    rw [hx, hy] at g1 g2
    simp only [List.getD_cons_zero, List.getD_cons_succ] at g1 g2
    have e : rows[x] = rows[y] := by
      rw [hx, hy, show p = r by omega, show q = s by omega]
    exact Fin.ext ((List.getElem?_inj x.2 hnd).1 (by rw [List.getElem?_eq_getElem x.2, List.getElem?_eq_getElem y.2]; exact congrArg some e))
  have hone := fun x => (henc x).2.one
  have main := Try.slices_SortFunc_total enc hone (fun x y : Fin rows.length => rcmp rows[x] rows[y]) hO 49 #[] (φ b).blk 0 cap d w (fun args w => enters_of Try.func49 (by kernel_rfl) rfl args w) hcmp hHo hblk (by omega) hT
  rw [hds] at main
  rw [hadr 0]
  refine main.mono ?_
  rintro e w' ⟨rfl, m, os, rfl⟩
  have hsp := List.mergeSort_perm d.toList fun x y : Fin rows.length => !(Go.Proofs.ltOf (fun x y : Fin rows.length => rcmp rows[x] rows[y])) y x
  have hss := List.pairwise_mergeSort (le := fun x y : Fin rows.length => !(Go.Proofs.ltOf (fun x y : Fin rows.length => rcmp rows[x] rows[y])) y x) (fun x y z h1 h2 => by
    simp only [Bool.not_eq_true'] at h1 h2 ⊢
    exact hO.ntrans z y x h2 h1) (fun x y => by
    cases h1 : Go.Proofs.ltOf (fun x y : Fin rows.length => rcmp rows[x] rows[y]) y x with
    | false => rfl
    | true =>
      cases h2 : Go.Proofs.ltOf (fun x y : Fin rows.length => rcmp rows[x] rows[y]) x y with
      | false => rfl
      | true =>
        have g1 := (hlt x y).1 h2
        have g2 := (hlt y x).1 h1
        omega) d.toList
  generalize (d.toList.mergeSort fun x y : Fin rows.length => !(Go.Proofs.ltOf (fun x y : Fin rows.length => rcmp rows[x] rows[y])) y x) = sg at hsp hss
  rw [hd] at hsp
  have hsl : sg.length = rows.length := by rw [hsp.length_eq, List.length_finRange]
  have hII := hrows.perm hsp hcl
  have hall : (List.finRange rows.length).map (fun j => rows[j]) = rows := by
    apply List.ext_getElem
    · simp
    · intro i h1 h2
      simp
  have hk2 := h (sg.map fun j => cs[j.val]'(hcl j)) (sg.map fun j => rows[j]) (by have := hsp.map fun j : Fin rows.length => rows[j]; rwa [hall] at this) (by
    rw [List.pairwise_map]
    refine hss.imp fun {x y} hxy => ?_
    simp only [Bool.not_eq_true'] at hxy
    have g1 := (hltn y x).1 hxy
    obtain ⟨p, q, hx⟩ := len2 (hl2 rows[x] (List.getElem_mem _))
    obtain ⟨r, s, hy⟩ := len2 (hl2 rows[y] (List.getElem_mem _))
    rw [hx, hy] at g1
    simp only [List.getD_cons_zero, List.getD_cons_succ] at g1
    exact ⟨p, q, r, s, hx, hy, by omega⟩) (fun c hc => by
      obtain ⟨j, _, rfl⟩ := List.mem_map.1 hc
      exact List.getElem_mem _) hII
  have hoth : ∀ c, c ≠ (φ b).blk → (Go.Sort.putRow enc (Go.Sort.ahead w m) (φ b).blk 0 sg.toArray).heap[c]? = w.heap[c]? := fun c hc' => by
    simp [Go.Sort.putRow, Go.Sort.mapBlock, Go.Sort.ahead, Array.getElem?_modify, Ne.symm hc']
  have hrow1 : (Go.Sort.putRow enc (Go.Sort.ahead w m) (φ b).blk 0 sg.toArray).heap[(φ b).blk]? = some (.cells (Go.Sort.putCells enc 0 sg.toArray csv) (iiK cs rows).ty fz) := by
    simp [Go.Sort.putRow, Go.Sort.mapBlock, Go.Sort.ahead, Array.getElem?_modify, hrow, Go.Sort.onCells]
  have hsz1 : (Go.Sort.putRow enc (Go.Sort.ahead w m) (φ b).blk 0 sg.toArray).heap.size = w.heap.size := by simp [Go.Sort.ahead]
  have hbl : Kept B w (Go.Sort.putRow enc (Go.Sort.ahead w m) (φ b).blk 0 sg.toArray) :=
    ⟨⟨rfl, rfl, rfl, by rw [hsz1]; exact Nat.le_refl _, fun k hk' => hoth k (by have := hown.base; omega)⟩, fun c hc' => hoth c fun e => hown.out (e ▸ hc')⟩
  have hc' : BCells φ H.n (φ b) (iiK (sg.map fun j => cs[j.val]'(hcl j)) (sg.map fun j => rows[j])) (Go.Sort.putRow enc (Go.Sort.ahead w m) (φ b).blk 0 sg.toArray) := by
    refine ⟨hc.esz, by rw [iiK_els]; simp; omega, fun i e hi => ?_, fun i e hi j x hx => ?_⟩
    · rw [iiK_els, List.getElem?_zipWith] at hi
      simp only [List.getElem?_map] at hi
      cases hs : sg[i]? with
      | none => rw [hs] at hi; cases hi
      | some y => rw [hs] at hi; cases hi; rfl
    · rw [iiK_els, List.getElem?_zipWith] at hi
      simp only [List.getElem?_map] at hi
      cases hs : sg[i]? with
      | none => rw [hs] at hi; cases hi
      | some y =>
        rw [hs] at hi
        cases hi
        match j, hx with
        | 0, hx =>
          cases hx
          have hil := (List.getElem?_eq_some_iff.1 hs).1
          refine ⟨enc y, ?_, (henc y).2⟩
          rw [hadr, Go.Sort.cell?_putRow enc (Go.Sort.ahead w m) (φ b).blk 0 d sg.toArray hHo (by simp [hsl, hds]) i (by simpa using hil)]
          simp [hs]
        | j + 1, hx => cases hx
  have hH1 := hH.stored (k' := iiK (sg.map fun j => cs[j.val]'(hcl j)) (sg.map fun j => rows[j])) hk rfl hphi rfl rfl rfl hsz1 hoth hrow1 ⟨csv, hrow, by simp [Go.Sort.putCells]⟩ hbl hc'
  have hb2 : Below (Go.Sort.putRow enc (Go.Sort.ahead w m) (φ b).blk 0 sg.toArray).heap.size (Go.Sort.putRow enc (Go.Sort.ahead w m) (φ b).blk 0 sg.toArray) (Go.Sort.grow (Go.Sort.putRow enc (Go.Sort.ahead w m) (φ b).blk 0 sg.toArray) os) :=
    ⟨rfl, rfl, rfl, by simp [Go.Sort.grow], fun i hi => by simp only [Go.Sort.grow]; rw [Array.getElem?_append_left hi]⟩
  exact ⟨.tup [], _, φ, _, rfl, ⟨[], rfl, trivial⟩, hH1.keep hb2, hbl.trans (.of_below hH1.size hH1.tlt hb2), Nat.le_refl _, fun _ _ => rfl, hk2⟩

end Go.Proofs.Ytafenginfojcmaa
