/- Rows of two numbers put in order, by the kit's shelf. Doubtful pairs: plain facts. The doubtful pairs, by the program. The doubtful pairs, by the reference. FnSightings: plain facts for its great law. -/
import Derived.Test.YtafenginfojcmaaGreatDoorSiC2
import Derived.Test.YtafenginfojcmaaGreatDoorSiY
import Derived.WalkKit
import Derived.Deep.LoopGhost
import Derived.Lib.RowBridge
set_option maxRecDepth 8000
set_option linter.unusedSimpArgs false
set_option linter.unusedVariables false
namespace Go.Proofs.YtafenginfojcmaaGreatDoor
open Go Go.RowKit

set_option maxRecDepth 100000
set_option maxHeartbeats 4000000
open Go.Proofs Go.Shelf Go.Lib
def cmp2 (x1 x2 y1 y2 : Int) : Int := if Lib.compareInt x1 y1 = 0 then Lib.compareInt x2 y2 else Lib.compareInt x1 y1
theorem cmp2_walk (b1 o1 c1 b2 o2 c2 : Nat) (x1 x2 y1 y2 : Int) (W : World) (h1 : W.cell? ⟨b1, o1, none⟩ = some (.int .i64 x1)) (h2 : W.cell? ⟨b1, o1 + 1, none⟩ = some (.int .i64 x2)) (h3 : W.cell? ⟨b2, o2, none⟩ = some (.int .i64 y1)) (h4 : W.cell? ⟨b2, o2 + 1, none⟩ = some (.int .i64 y2)) :
    Calls Tryz.prog 37 #[.slice (some ⟨b1, o1, none⟩) 2 c1, .slice (some ⟨b2, o2, none⟩) 2 c2] W fun e w' => e = .returned (.int .i64 (cmp2 x1 x2 y1 y2)) ∧ w' = W := by
  have hc1 := Tryz.cmp_Compare_int x1 y1 W
  have hc2 := Tryz.cmp_Compare_int x2 y2 W
  unfold cmp2
  generalize Lib.compareInt x1 y1 = r1 at hc1 ⊢
  generalize Lib.compareInt x2 y2 = r2 at hc2 ⊢
  by_cases hr1 : r1 = 0
  · subst hr1
    by_cases hr2 : r2 = 0
    · subst hr2
      go_enter Tryz.func37, Tryz.ntmps37
      go_wp2
      refine wp_loop_rounds 3 ?_
      rw [rounds_succ]
      go_wp2_with (go_at_call 66; refine hc1.mono ?_; rintro e w' ⟨rfl, rfl⟩)
      rw [rounds_succ]
      go_wp2_with (go_at_call 66; refine hc2.mono ?_; rintro e w' ⟨rfl, rfl⟩)
      rw [rounds_succ]
      go_wp2
      go_ret
      exact ⟨rfl, rfl⟩
    · go_enter Tryz.func37, Tryz.ntmps37
      go_wp2
      refine wp_loop_rounds 3 ?_
      rw [rounds_succ]
      go_wp2_with (go_at_call 66; refine hc1.mono ?_; rintro e w' ⟨rfl, rfl⟩)
      rw [rounds_succ]
      go_wp2_with (go_at_call 66; refine hc2.mono ?_; rintro e w' ⟨rfl, rfl⟩)
      go_ret
      exact ⟨rfl, rfl⟩
  · go_enter Tryz.func37, Tryz.ntmps37
    go_wp2
    refine wp_loop_rounds 3 ?_
    rw [rounds_succ]
    go_wp2_with (go_at_call 66; refine hc1.mono ?_; rintro e w' ⟨rfl, rfl⟩)
    go_ret
    exact ⟨rfl, rfl⟩
/-- before, row by row -/
def lexL (p q : List Int) : Prop := ∃ a b c d, p = [a, b] ∧ q = [c, d] ∧ (a < c ∨ (a = c ∧ b ≤ d))
def rcmp (p q : List Int) : Int := cmp2 (p.getD 0 0) (p.getD 1 0) (q.getD 0 0) (q.getD 1 0)
theorem cmpI_lt (x y : Int) : Lib.compareInt x y < 0 ↔ x < y := by
  unfold Lib.compareInt
  by_cases h1 : x < y
  · simp [h1]
  · by_cases h2 : y < x <;> simp [h1, h2]
theorem cmpI_0 (x y : Int) : Lib.compareInt x y = 0 ↔ x = y := by
  unfold Lib.compareInt
  by_cases h1 : x < y
  · simp [h1]; omega
  · by_cases h2 : y < x
    · simp [h1, h2]; omega
    · simp [h1, h2]; omega
theorem cmp2_lt (a b c d : Int) : cmp2 a b c d < 0 ↔ a < c ∨ (a = c ∧ b < d) := by
  unfold cmp2
  by_cases h : Lib.compareInt a c = 0
  · rw [if_pos h, cmpI_lt]
    have := (cmpI_0 a c).1 h
    omega
  · rw [if_neg h, cmpI_lt]
    have : ¬ a = c := fun e => h ((cmpI_0 a c).2 e)
    omega
theorem len2 {p : List Int} (h : p.length = 2) : ∃ a b, p = [a, b] := by
  match p, h with
  | [a, b], _ => exact ⟨a, b, rfl⟩
def q_sortF : Con := fun args H K => match args with
  | [.c (.sl b i n), .c (.fn g l)] => Stop (∃ cs rows, l = [] ∧ g = 37 ∧ i = 0 ∧ n = rows.length ∧ IIRows H b cs rows ∧ rows.Nodup ∧ (∀ p ∈ rows, p.length = 2) ∧ rows.length ≤ 1000000 ∧ ∀ cs' rows', rows'.Perm rows → rows'.Pairwise lexL → (∀ c ∈ cs', c ∈ cs) → IIRows (H.set b (iiK cs' rows')) b cs' rows' → K (.tup []) (H.set b (iiK cs' rows'))) ()
  | _ => False
@[simp ↓] theorem q_sortF_eq (b i n g : Nat) (l : List Nat) (H : AHeap) (K : AV → AHeap → Prop) : q_sortF [.c (.sl b i n), .c (.fn g l)] H K = Stop (∃ cs rows, l = [] ∧ g = 37 ∧ i = 0 ∧ n = rows.length ∧ IIRows H b cs rows ∧ rows.Nodup ∧ (∀ p ∈ rows, p.length = 2) ∧ rows.length ≤ 1000000 ∧ ∀ cs' rows', rows'.Perm rows → rows'.Pairwise lexL → (∀ c ∈ cs', c ∈ cs) → IIRows (H.set b (iiK cs' rows')) b cs' rows' → K (.tup []) (H.set b (iiK cs' rows'))) () := rfl
/-- rows in another order: the heap -/
theorem IIRows.perm {H : AHeap} {b : Nat} {cs : List Nat} {rows : List (List Int)} (h : IIRows H b cs rows) {s : List (Fin rows.length)} (hs : s.Perm (List.finRange rows.length)) (hcl : ∀ j : Fin rows.length, j.val < cs.length) :
    IIRows (H.set b (iiK (s.map fun j => cs[j.val]'(hcl j)) (s.map fun j => rows[j]))) b (s.map fun j => cs[j.val]'(hcl j)) (s.map fun j => rows[j]) := by
  have hnd : s.Nodup := hs.symm.nodup (List.nodup_finRange _)
  have hmem : ∀ c ∈ (s.map fun j => cs[j.val]'(hcl j)), c ∈ cs := fun c hc => by
    obtain ⟨j, _, rfl⟩ := List.mem_map.1 hc
    exact List.getElem_mem _
  refine ⟨by simp, ?_, fun hc => h.nb (hmem _ hc), by rw [set_b, if_pos rfl], fun j c g hc hg => ?_⟩
  · rw [List.nodup_iff_pairwise_ne, List.pairwise_map]
    exact hnd.imp fun {x y} hxy e => hxy (Fin.ext ((List.getElem?_inj (hcl x) h.nd).1 (by rw [List.getElem?_eq_getElem (hcl x), List.getElem?_eq_getElem (hcl y), e])))
  · rw [List.getElem?_map, Option.map_eq_some_iff] at hc hg
    obtain ⟨x, hx, rfl⟩ := hc
    obtain ⟨y, hy, rfl⟩ := hg
    rw [hx] at hy
    cases hy
    rw [set_b, if_neg (show ¬ cs[x.val]'(hcl x) = b from fun e => h.nb (e ▸ List.getElem_mem (hcl x)))]
    exact h.row x.val _ _ (List.getElem?_eq_getElem _) (List.getElem?_eq_getElem _)

theorem slices_SortFunc_____int___int_s : Sound Tryz.prog 36 q_sortF := by
  intro args H K h
  unfold q_sortF at h
  split at h
  rotate_left
  all_goals first | exact False.elim h | skip
  rename_i b i n g l
  obtain ⟨cs, rows, rfl, rfl, rfl, rfl, hrows, hnd, hl2, hn2, h⟩ := Stop.go h
  refine ⟨fun args w => enters_of Tryz.func36 (by kernel_rfl) rfl args w, fun φ B w vs hH hr => ?_⟩
  obtain ⟨v, u, rfl⟩ : ∃ v u, vs = [v, u] := by
    match vs, hr with
    | [v, u], _ => exact ⟨v, u, rfl⟩
    | [], hr => exact hr.elim
    | [_], hr => exact hr.2.elim
    | _ :: _ :: _ :: _, hr => exact hr.2.2.elim
  obtain ⟨hr1, hr2, _⟩ := hr
  obtain ⟨hb, a, cap, rfl, hcap, hcap2, ha⟩ := hr1
  obtain ⟨_, rfl⟩ := hr2
  have hlc := hrows.len
  rcases Nat.eq_zero_or_pos rows.length with h0 | hpos
  · have hre : rows = [] := List.eq_nil_of_length_eq_zero h0
    subst hre
    have hce : cs = [] := List.eq_nil_of_length_eq_zero hlc
    subst hce
    have main := Tryz.slices_SortFunc_none (α := Unit) a cap (.func (.func 37) #[] #[]) w
    refine main.mono ?_
    rintro e w' ⟨rfl, rfl⟩
    have hs : H.set b (iiK [] []) = H := set_self hrows.blk
    have hk := h [] [] (.refl _) .nil (fun _ h => h) (by rw [hs]; exact hrows)
    rw [hs] at hk
    exact ⟨.tup [], _, φ, H, rfl, ⟨[], rfl, trivial⟩, hH, .refl _ _, Nat.le_refl _, fun _ _ => rfl, hk⟩
  obtain rfl := ha (by omega)
  have hk := hrows.blk
  have hphi : 0 < (φ b).cap := by omega
  have hown := hH.own b _ hk rfl hphi
  have hc := hH.cells b _ hk
  obtain ⟨csv, fz, hrow, hsz, hfz, hfr⟩ := hown.row
  have hesz' : (φ b).esz = 1 := hc.esz
  have hcc := hc.cap
  rw [hesz', Nat.mul_one] at hsz
  have hadr : ∀ j, (φ b).adr j 0 = ⟨(φ b).blk, 0 + j, none⟩ := fun j => by simp [Place.adr, hown.off, hesz']
  have hcl : ∀ j : Fin rows.length, j.val < cs.length := fun j => by rw [hlc]; exact j.2
  have hval : ∀ j : Fin rows.length, ∃ v, w.cell? ⟨(φ b).blk, 0 + j.val, none⟩ = some v ∧ RepC φ H.n (.sl (cs[j.val]'(hcl j)) 0 rows[j].length) v := fun j => by
    obtain ⟨v, h1, h2⟩ := hc.cell j.val [.sl (cs[j.val]'(hcl j)) 0 rows[j].length] (by
      have e1 : cs[j.val]? = some (cs[j.val]'(hcl j)) := List.getElem?_eq_getElem _
      have e2 : rows[j.val]? = some rows[j] := List.getElem?_eq_getElem _
      rw [iiK_els, List.getElem?_zipWith, e1, e2]) 0 _ rfl
    rw [hadr] at h1
    exact ⟨v, h1, h2⟩
  obtain ⟨enc, henc⟩ : ∃ enc : Fin rows.length → Value, ∀ j : Fin rows.length, w.cell? ⟨(φ b).blk, 0 + j.val, none⟩ = some (enc j) ∧ RepC φ H.n (.sl (cs[j.val]'(hcl j)) 0 rows[j].length) (enc j) := ⟨fun j => Classical.choose (hval j), fun j => Classical.choose_spec (hval j)⟩
  haveI : Inhabited (Fin rows.length) := ⟨⟨0, hpos⟩⟩
  obtain ⟨d, hd⟩ : ∃ d : Array (Fin rows.length), d.toList = List.finRange rows.length := ⟨(List.finRange rows.length).toArray, rfl⟩
  have hds : d.size = rows.length := by rw [← Array.length_toList, hd, List.length_finRange]
  have hdj : ∀ (j : Nat) (hj : j < rows.length), d[j]! = ⟨j, hj⟩ := fun j hj => by
    rw [getElem!_pos d j (by omega), ← Array.getElem_toList]
    simp [hd]
  have hHo : Go.Sort.Holds enc w (φ b).blk 0 d := fun j hj => by
    have hj' : j < rows.length := by omega
    rw [hdj j hj']
    refine ⟨(henc ⟨j, hj'⟩).1, ?_⟩
    have := hfr j (by omega)
    simp only [World.frozen?, hrow, Nat.zero_add]
    simpa using this
  have hblk : (φ b).blk < w.heap.size := (Array.getElem?_eq_some_iff.1 hrow).1
  have hin : ∀ j : Fin rows.length, ∃ bl o cp, enc j = .slice (some ⟨bl, o, none⟩) 2 cp ∧ w.cell? ⟨bl, o, none⟩ = some (.int .i64 (rows[j].getD 0 0)) ∧ w.cell? ⟨bl, o + 1, none⟩ = some (.int .i64 (rows[j].getD 1 0)) ∧ bl ≠ (φ b).blk := fun j => by
    obtain ⟨p, q, hpq⟩ := len2 (hl2 rows[j] (List.getElem_mem _))
    obtain ⟨_, a, cp, h1, h2, h3, h4⟩ := (henc j).2
    have hrj := hrows.row j.val _ rows[j] (List.getElem?_eq_getElem (hcl j)) (List.getElem?_eq_getElem _)
    rw [hpq] at h1 h2 hrj ⊢
    have h2' : 2 ≤ cp := h2
    obtain rfl := h4 (by omega)
    have hcj := hH.cells _ _ hrj
    have hej : (φ (cs[j.val]'(hcl j))).esz = 1 := hcj.esz
    refine ⟨(φ (cs[j.val]'(hcl j))).blk, (φ (cs[j.val]'(hcl j))).off, cp, ?_, ?_, ?_, ?_⟩
    · rw [h1]; simp [Place.adr]
    · obtain ⟨v, g1, g2⟩ := hcj.cell 0 [.int .i64 p] rfl 0 _ rfl
      rw [show v = .int .i64 p from g2] at g1
      simpa [Place.adr] using g1
    · obtain ⟨v, g1, g2⟩ := hcj.cell 1 [.int .i64 q] rfl 0 _ rfl
      rw [show v = .int .i64 q from g2] at g1
      simpa [Place.adr, hej] using g1
    · intro e
      refine hrows.nb ?_
      have := hH.apart _ _ _ _ hrj hk rfl rfl (by omega) hphi e
      rw [← this]
      exact List.getElem_mem _
  have hkeep : ∀ (m : Nat) (os : Array Obj) (dk : Array (Fin rows.length)) (bl o : Nat) (v : Value), bl ≠ (φ b).blk → w.cell? ⟨bl, o, none⟩ = some v → (Go.Proofs.sortWorld enc w (φ b).blk 0 m dk os).cell? ⟨bl, o, none⟩ = some v := fun m os dk bl o v hne hv => by
    have hlt : bl < w.heap.size := by
      simp only [World.cell?] at hv
      rcases Nat.lt_or_ge bl w.heap.size with h | h
      · exact h
      · rw [Array.getElem?_eq_none (by omega)] at hv; cases hv
    have e : (Go.Proofs.sortWorld enc w (φ b).blk 0 m dk os).heap[bl]? = w.heap[bl]? := by
      simp only [Go.Proofs.sortWorld, Go.Sort.grow]
      rw [Array.getElem?_append_left (by simp [Go.Sort.putRow, Go.Sort.mapBlock, Go.Sort.ahead]; omega)]
      simp [Go.Sort.putRow, Go.Sort.mapBlock, Go.Sort.ahead, Array.getElem?_modify, Ne.symm hne]
    simp only [World.cell?, e]
    exact hv
  have hcmp : CmpLays1 Tryz.prog 37 #[] enc (fun x y => rcmp rows[x] rows[y]) (φ b).blk 0 d.size w := fun m os dk hs x y => by
    obtain ⟨bx, ox, cx, ex, x1, x2, xn⟩ := hin x
    obtain ⟨bb, oy, cy, ey, y1, y2, yn⟩ := hin y
    rw [ex, ey]
    exact (cmp2_walk bx ox cx bb oy cy _ _ _ _ _ (hkeep m os dk _ _ _ xn x1) (hkeep m os dk _ _ _ xn x2) (hkeep m os dk _ _ _ yn y1) (hkeep m os dk _ _ _ yn y2)).mono fun e w' ⟨he, hw⟩ => ⟨he, 0, #[], by rw [hw, Go.Sort.grow_empty]; rfl⟩
  have hlt : ∀ x y : Fin rows.length, Go.Proofs.ltOf (fun x y : Fin rows.length => rcmp rows[x] rows[y]) x y = true ↔ rows[x].getD 0 0 < rows[y].getD 0 0 ∨ (rows[x].getD 0 0 = rows[y].getD 0 0 ∧ rows[x].getD 1 0 < rows[y].getD 1 0) := fun x y => by
    unfold Go.Proofs.ltOf rcmp
    rw [decide_eq_true_eq, cmp2_lt]
  have hltn : ∀ x y : Fin rows.length, Go.Proofs.ltOf (fun x y : Fin rows.length => rcmp rows[x] rows[y]) x y = false ↔ ¬ (rows[x].getD 0 0 < rows[y].getD 0 0 ∨ (rows[x].getD 0 0 = rows[y].getD 0 0 ∧ rows[x].getD 1 0 < rows[y].getD 1 0)) := fun x y => by
    rw [← hlt, Bool.not_eq_true]
  have hO : Go.Sort.SWO (Go.Proofs.ltOf (fun x y : Fin rows.length => rcmp rows[x] rows[y])) := ⟨fun x => (hltn x x).2 (by omega), fun x y z h1 h2 => (hlt x z).2 (by have g1 := (hlt x y).1 h1; have g2 := (hlt y z).1 h2; omega), fun x y z h1 h2 => (hltn x z).2 (by have g1 := (hltn x y).1 h1; have g2 := (hltn y z).1 h2; omega)⟩
  have hT : ∀ x y : Fin rows.length, Go.Proofs.ltOf (fun x y : Fin rows.length => rcmp rows[x] rows[y]) x y = false → Go.Proofs.ltOf (fun x y : Fin rows.length => rcmp rows[x] rows[y]) y x = false → x = y := fun x y h1 h2 => by
    have g1 := (hltn x y).1 h1
    have g2 := (hltn y x).1 h2
    obtain ⟨p, q, hx⟩ := len2 (hl2 rows[x] (List.getElem_mem _))
    obtain ⟨r, s, hy⟩ := len2 (hl2 rows[y] (List.getElem_mem _))
    rw [hx, hy] at g1 g2
    simp only [List.getD_cons_zero, List.getD_cons_succ] at g1 g2
    have e : rows[x] = rows[y] := by
      rw [hx, hy, show p = r by omega, show q = s by omega]
    exact Fin.ext ((List.getElem?_inj x.2 hnd).1 (by rw [List.getElem?_eq_getElem x.2, List.getElem?_eq_getElem y.2]; exact congrArg some e))
  have hone := fun x => (henc x).2.one
  have main := Tryz.slices_SortFunc_total enc hone (fun x y : Fin rows.length => rcmp rows[x] rows[y]) hO 37 #[] (φ b).blk 0 cap d w (fun args w => enters_of Tryz.func37 (by kernel_rfl) rfl args w) hcmp hHo hblk (by omega) hT
  rw [hds] at main
  rw [hadr 0]
  refine main.mono ?_
  rintro e w' ⟨rfl, m, os, rfl⟩
  have hsp := List.mergeSort_perm d.toList fun x y : Fin rows.length => !(Go.Proofs.ltOf (fun x y : Fin rows.length => rcmp rows[x] rows[y])) y x
  have hss := List.pairwise_mergeSort (le := fun x y : Fin rows.length => !(Go.Proofs.ltOf (fun x y : Fin rows.length => rcmp rows[x] rows[y])) y x) (fun x y z h1 h2 => by
    simp only [Bool.not_eq_true'] at h1 h2 ⊢
    exact hO.ntrans z y x h2 h1) (fun x y => by
    cases h1 : Go.Proofs.ltOf (fun x y : Fin rows.length => rcmp rows[x] rows[y]) y x with
    | false => rfl
    | true =>
      cases h2 : Go.Proofs.ltOf (fun x y : Fin rows.length => rcmp rows[x] rows[y]) x y with
      | false => rfl
      | true =>
        have g1 := (hlt x y).1 h2
        have g2 := (hlt y x).1 h1
        omega) d.toList
  generalize (d.toList.mergeSort fun x y : Fin rows.length => !(Go.Proofs.ltOf (fun x y : Fin rows.length => rcmp rows[x] rows[y])) y x) = sg at hsp hss
  rw [hd] at hsp
  have hsl : sg.length = rows.length := by rw [hsp.length_eq, List.length_finRange]
  have hII := hrows.perm hsp hcl
  have hall : (List.finRange rows.length).map (fun j => rows[j]) = rows := by
    apply List.ext_getElem
    · simp
    · intro i h1 h2
      simp
  have hk2 := h (sg.map fun j => cs[j.val]'(hcl j)) (sg.map fun j => rows[j]) (by have := hsp.map fun j : Fin rows.length => rows[j]; rwa [hall] at this) (by
    rw [List.pairwise_map]
    refine hss.imp fun {x y} hxy => ?_
    simp only [Bool.not_eq_true'] at hxy
    have g1 := (hltn y x).1 hxy
    obtain ⟨p, q, hx⟩ := len2 (hl2 rows[x] (List.getElem_mem _))
    obtain ⟨r, s, hy⟩ := len2 (hl2 rows[y] (List.getElem_mem _))
    rw [hx, hy] at g1
    simp only [List.getD_cons_zero, List.getD_cons_succ] at g1
    exact ⟨p, q, r, s, hx, hy, by omega⟩) (fun c hc => by
      obtain ⟨j, _, rfl⟩ := List.mem_map.1 hc
      exact List.getElem_mem _) hII
  have hoth : ∀ c, c ≠ (φ b).blk → (Go.Sort.putRow enc (Go.Sort.ahead w m) (φ b).blk 0 sg.toArray).heap[c]? = w.heap[c]? := fun c hc' => by
    simp [Go.Sort.putRow, Go.Sort.mapBlock, Go.Sort.ahead, Array.getElem?_modify, Ne.symm hc']
  have hrow1 : (Go.Sort.putRow enc (Go.Sort.ahead w m) (φ b).blk 0 sg.toArray).heap[(φ b).blk]? = some (.cells (Go.Sort.putCells enc 0 sg.toArray csv) (iiK cs rows).ty fz) := by
    simp [Go.Sort.putRow, Go.Sort.mapBlock, Go.Sort.ahead, Array.getElem?_modify, hrow, Go.Sort.onCells]
  have hsz1 : (Go.Sort.putRow enc (Go.Sort.ahead w m) (φ b).blk 0 sg.toArray).heap.size = w.heap.size := by simp [Go.Sort.ahead]
  have hbl : Kept B w (Go.Sort.putRow enc (Go.Sort.ahead w m) (φ b).blk 0 sg.toArray) :=
    ⟨⟨rfl, rfl, rfl, by rw [hsz1]; exact Nat.le_refl _, fun k hk' => hoth k (by have := hown.base; omega)⟩, fun c hc' => hoth c fun e => hown.out (e ▸ hc')⟩
  have hc' : BCells φ H.n (φ b) (iiK (sg.map fun j => cs[j.val]'(hcl j)) (sg.map fun j => rows[j])) (Go.Sort.putRow enc (Go.Sort.ahead w m) (φ b).blk 0 sg.toArray) := by
    refine ⟨hc.esz, by rw [iiK_els]; simp; omega, fun i e hi => ?_, fun i e hi j x hx => ?_⟩
    · rw [iiK_els, List.getElem?_zipWith] at hi
      simp only [List.getElem?_map] at hi
      cases hs : sg[i]? with
      | none => rw [hs] at hi; cases hi
      | some y => rw [hs] at hi; cases hi; rfl
    · rw [iiK_els, List.getElem?_zipWith] at hi
      simp only [List.getElem?_map] at hi
      cases hs : sg[i]? with
      | none => rw [hs] at hi; cases hi
      | some y =>
        rw [hs] at hi
        cases hi
        match j, hx with
        | 0, hx =>
          cases hx
          have hil := (List.getElem?_eq_some_iff.1 hs).1
          refine ⟨enc y, ?_, (henc y).2⟩
          rw [hadr, Go.Sort.cell?_putRow enc (Go.Sort.ahead w m) (φ b).blk 0 d sg.toArray hHo (by simp [hsl, hds]) i (by simpa using hil)]
          simp [hs]
        | j + 1, hx => cases hx
  have hH1 := hH.stored (k' := iiK (sg.map fun j => cs[j.val]'(hcl j)) (sg.map fun j => rows[j])) hk rfl hphi rfl rfl rfl hsz1 hoth hrow1 ⟨csv, hrow, by simp [Go.Sort.putCells]⟩ hbl hc'
  have hb2 : Below (Go.Sort.putRow enc (Go.Sort.ahead w m) (φ b).blk 0 sg.toArray).heap.size (Go.Sort.putRow enc (Go.Sort.ahead w m) (φ b).blk 0 sg.toArray) (Go.Sort.grow (Go.Sort.putRow enc (Go.Sort.ahead w m) (φ b).blk 0 sg.toArray) os) :=
    ⟨rfl, rfl, rfl, by simp [Go.Sort.grow], fun i hi => by simp only [Go.Sort.grow]; rw [Array.getElem?_append_left hi]⟩
  exact ⟨.tup [], _, φ, _, rfl, ⟨[], rfl, trivial⟩, hH1.keep hb2, hbl.trans (.of_below hH1.size hH1.tlt hb2), Nat.le_refl _, fun _ _ => rfl, hk2⟩

end Go.Proofs.YtafenginfojcmaaGreatDoor
set_option maxRecDepth 8000
set_option linter.unusedSimpArgs false
set_option linter.unusedVariables false
namespace Go.Proofs.YtafenginfojcmaaGreatDoor
open Go Go.RowKit

set_option maxHeartbeats 1000000
theorem dp_go : ∀ (l : List Si) (o : Option Si), siGo o l = true → l.Pairwise (fun a b => a.id < b.id) ∧ ∀ p, o = some p → ∀ x ∈ l, p.id < x.id
  | [], _, _ => ⟨.nil, fun _ _ x hx => by cases hx⟩
  | x :: r, o, h => by
    simp only [siGo, Bool.if_false_right, Bool.and_eq_true, decide_eq_true_eq] at h
    obtain ⟨_, h1, h2⟩ := h
    obtain ⟨h3, h4⟩ := dp_go r (some x) h2
    refine ⟨List.pairwise_cons.2 ⟨fun y hy => h4 x rfl y hy, h3⟩, fun p hp y hy => ?_⟩
    subst hp
    have h5 : p.id < x.id := by simpa using h1
    rcases List.mem_cons.1 hy with rfl | hy
    · exact h5
    · have := h4 x rfl y hy; omega
theorem dp_sid {ps : List Si} (h : areSi ps = true) {i k : Nat} (hik : i < k) (hk : k < ps.length) : sid ps i < sid ps k := by
  unfold areSi at h
  simp only [Bool.and_eq_true] at h
  have h1 := List.pairwise_iff_getElem.1 (dp_go ps none h.1).1 i k (by omega) hk hik
  simpa [sid, List.getD_eq_getElem?_getD, hk, show i < ps.length by omega] using h1
/-- a pair of indices that are of one cover, with less evidence of their own -/
noncomputable def dpB (ps : List Si) (limit : Int) (i k : Nat) : Bool := decide (i < k) && (decide (k ∈ comp (edge ps limit) ps.length i) && !edge ps limit i k)
noncomputable def dpT (ps : List Si) (limit : Int) (i m : Nat) : List (Nat × Nat) := ((List.range m).filter (dpB ps limit i)).map fun k => (i, k)
theorem dpT_s (ps : List Si) (limit : Int) (i m : Nat) : dpT ps limit i (m + 1) = dpT ps limit i m ++ if dpB ps limit i m = true then [(i, m)] else [] := by
  unfold dpT
  rw [List.range_succ, List.filter_append, List.map_append]
  by_cases h : dpB ps limit i m = true
  · rw [if_pos h, List.filter_cons_of_pos h]; rfl
  · rw [if_neg h, List.filter_cons_of_neg h]; rfl
theorem dpT_0 (ps : List Si) (limit : Int) (i : Nat) : dpT ps limit i (i + 1) = [] := by
  unfold dpT
  rw [List.map_eq_nil_iff, List.filter_eq_nil_iff]
  intro k hk hb
  simp only [dpB, Bool.and_eq_true, decide_eq_true_eq, List.mem_range] at hb hk
  omega
/-- the pairs, as the reference finds them -/
noncomputable def dpS (ps : List Si) (limit : Int) (m : Nat) : List (Nat × Nat) := (List.range m).flatMap fun i => dpT ps limit i ps.length
theorem dpS_s (ps : List Si) (limit : Int) (m : Nat) : dpS ps limit (m + 1) = dpS ps limit m ++ dpT ps limit m ps.length := by
  unfold dpS
  rw [List.range_succ, List.flatMap_append]
  simp
def dpR (ps : List Si) (p : Nat × Nat) : List Int := [sid ps p.1, sid ps p.2]
theorem dpT_len (ps : List Si) (limit : Int) (i m : Nat) : (dpT ps limit i m).length ≤ m := by
  unfold dpT
  rw [List.length_map]
  exact Nat.le_trans (List.length_filter_le _ _) (by simp)
theorem dpS_len (ps : List Si) (limit : Int) : ∀ m, (dpS ps limit m).length ≤ m * ps.length
  | 0 => by simp [dpS]
  | m + 1 => by
    rw [dpS_s, List.length_append]
    have h1 := dpS_len ps limit m
    have h2 := dpT_len ps limit m ps.length
    rw [Nat.add_mul]
    omega
theorem dpS_mem {ps : List Si} {limit : Int} {m : Nat} {p : Nat × Nat} : p ∈ dpS ps limit m ↔ p.1 < m ∧ p.2 < ps.length ∧ dpB ps limit p.1 p.2 = true := by
  unfold dpS dpT
  rw [List.mem_flatMap]
  constructor
  · rintro ⟨i, hi, hp⟩
    obtain ⟨k, hk, rfl⟩ := List.mem_map.1 hp
    obtain ⟨h1, h2⟩ := List.mem_filter.1 hk
    exact ⟨List.mem_range.1 hi, List.mem_range.1 h1, h2⟩
  · rintro ⟨h1, h2, h3⟩
    exact ⟨p.1, List.mem_range.2 h1, List.mem_map.2 ⟨p.2, List.mem_filter.2 ⟨List.mem_range.2 h2, h3⟩, rfl⟩⟩
theorem dpS_up (ps : List Si) (limit : Int) (m : Nat) : (dpS ps limit m).Pairwise fun p q => p.1 < q.1 ∨ (p.1 = q.1 ∧ p.2 < q.2) := by
  unfold dpS
  rw [List.pairwise_flatMap]
  refine ⟨fun i _ => ?_, List.pairwise_lt_range.imp fun {i j} hij x hx y hy => ?_⟩
  · unfold dpT
    rw [List.pairwise_map]
    exact (List.pairwise_lt_range.filter _).imp fun {a b} hab => .inr ⟨rfl, hab⟩
  · unfold dpT at hx hy
    obtain ⟨k, _, rfl⟩ := List.mem_map.1 hx
    obtain ⟨l, _, rfl⟩ := List.mem_map.1 hy
    exact .inl hij
/-- the pairs within a group, as the program finds them -/
def pI (ps : List Si) (limit : Int) (i : Nat) (L : List Nat) : List (Nat × Nat) := (L.filter fun k => !edge ps limit i k).map fun k => (i, k)
def pG (ps : List Si) (limit : Int) : List Nat → List (Nat × Nat)
  | [] => []
  | i :: r => pI ps limit i r ++ pG ps limit r
theorem pI_c (ps : List Si) (limit : Int) (i k : Nat) (L : List Nat) : pI ps limit i (k :: L) = (if edge ps limit i k = true then [] else [(i, k)]) ++ pI ps limit i L := by
  unfold pI
  by_cases h : edge ps limit i k = true
  · rw [List.filter_cons_of_neg (by simp [h]), if_pos h]; rfl
  · rw [List.filter_cons_of_pos (by simpa using h), if_neg h]; rfl
theorem pI_mem {ps : List Si} {limit : Int} {i : Nat} {L : List Nat} {p : Nat × Nat} : p ∈ pI ps limit i L ↔ p.1 = i ∧ p.2 ∈ L ∧ edge ps limit p.1 p.2 = false := by
  unfold pI
  rw [List.mem_map]
  constructor
  · rintro ⟨k, hk, rfl⟩
    obtain ⟨h1, h2⟩ := List.mem_filter.1 hk
    exact ⟨rfl, h1, by simpa using h2⟩
  · rintro ⟨rfl, h2, h3⟩
    exact ⟨p.2, List.mem_filter.2 ⟨h2, by simp [h3]⟩, rfl⟩
theorem pG_mem {ps : List Si} {limit : Int} {p : Nat × Nat} : ∀ {L : List Nat}, L.Pairwise (· < ·) → (p ∈ pG ps limit L ↔ p.1 ∈ L ∧ p.2 ∈ L ∧ p.1 < p.2 ∧ edge ps limit p.1 p.2 = false)
  | [], _ => by simp [pG]
  | i :: r, h => by
    obtain ⟨h1, h2⟩ := List.pairwise_cons.1 h
    rw [pG, List.mem_append, pI_mem, pG_mem h2]
    constructor
    · rintro (⟨rfl, g2, g3⟩ | ⟨g1, g2, g3, g4⟩)
      · exact ⟨by simp, by simp [g2], h1 _ g2, g3⟩
      · exact ⟨by simp [g1], by simp [g2], g3, g4⟩
    · rintro ⟨g1, g2, g3, g4⟩
      rcases List.mem_cons.1 g1 with e1 | g1
      · rcases List.mem_cons.1 g2 with e2 | g2
        · omega
        · exact .inl ⟨e1, g2, g4⟩
      · rcases List.mem_cons.1 g2 with e2 | g2
        · have := h1 _ g1; omega
        · exact .inr ⟨g1, g2, g3, g4⟩
theorem pG_nd {ps : List Si} {limit : Int} : ∀ {L : List Nat}, L.Pairwise (· < ·) → (pG ps limit L).Nodup
  | [], _ => .nil
  | i :: r, h => by
    obtain ⟨h1, h2⟩ := List.pairwise_cons.1 h
    rw [pG, List.nodup_append]
    refine ⟨?_, pG_nd h2, fun x hx y hy e => ?_⟩
    · unfold pI
      rw [List.nodup_iff_pairwise_ne, List.pairwise_map]
      exact (h2.filter _).imp fun {a b} hab e => by cases e; omega
    · subst e
      have g1 := (pI_mem.1 hx).1
      have g2 := h1 _ ((pG_mem h2).1 hy).1
      omega
noncomputable def dpP (ps : List Si) (limit : Int) : List (Nat × Nat) := (groupsTo (edge ps limit) ps.length ps.length).flatMap (pG ps limit)
theorem groups_up {e : Nat → Nat → Bool} {n k : Nat} : ∀ g ∈ groupsTo e n k, g.Pairwise (· < ·) := fun g hg => by
  unfold groupsTo at hg
  obtain ⟨i, _, rfl⟩ := List.mem_map.1 hg
  exact comp_up
theorem dpP_perm {ps : List Si} {limit : Int} (hs : ∀ x k, x < ps.length → k < ps.length → edge ps limit x k = true → edge ps limit k x = true) : (dpP ps limit).Perm (dpS ps limit ps.length) := by
  refine (List.perm_ext_iff_of_nodup ?_ ?_).2 fun p => ?_
  · unfold dpP
    rw [List.nodup_iff_pairwise_ne, List.pairwise_flatMap]
    refine ⟨fun g hg => List.nodup_iff_pairwise_ne.1 (pG_nd (groups_up g hg)), ?_⟩
    unfold groupsTo
    rw [List.pairwise_map]
    refine List.Pairwise.imp_of_mem ?_ (List.pairwise_lt_range.filter _)
    intro i j hi hj hij x hx y hy e
    subst e
    have h1 := mem_comp.1 ((pG_mem comp_up).1 hx).1
    have h2 := mem_comp.1 ((pG_mem comp_up).1 hy).1
    have h3 := leadB_t.1 (List.mem_filter.1 hj).2
    exact h3 i hij (h1.trans (h2.symm hs))
  · exact (dpS_up ps limit _).imp fun {a b} h e => by subst e; omega
  · rw [dpS_mem]
    unfold dpP
    rw [List.mem_flatMap]
    constructor
    · rintro ⟨g, hg, hp⟩
      obtain ⟨h1, h2, h3, h4⟩ := (pG_mem (groups_up g hg)).1 hp
      have e := groups_same hs hg h1
      rw [e] at h1 h2
      have l1 := (mem_comp.1 h1).lt
      have l2 := (mem_comp.1 h2).lt
      exact ⟨l1, l2, by unfold dpB; simp [h3, h2, h4]⟩
    · rintro ⟨h1, h2, h3⟩
      simp only [dpB, Bool.and_eq_true, decide_eq_true_eq, Bool.not_eq_true'] at h3
      obtain ⟨g, hg, hm⟩ := groups_find (e := edge ps limit) h1
      have e := groups_same hs hg hm
      exact ⟨g, hg, (pG_mem (groups_up g hg)).2 ⟨hm, by rw [e]; exact h3.2.1, h3.1, h3.2.2⟩⟩
noncomputable def dpRes (ps : List Si) (limit : Int) : List (List Int) × Bool := if areSi ps = true then if inR limit (-30) 16 = true then ((dpS ps limit ps.length).map (dpR ps), true) else ([], false) else ([], false)
theorem dpRes_len (ps : List Si) (limit : Int) : (dpRes ps limit).1.length ≤ 100 ∧ ∀ g ∈ (dpRes ps limit).1, g.length ≤ 2 := by
  unfold dpRes
  split
  · rename_i hv
    have h4 := areSi_len hv
    split
    · refine ⟨?_, fun g hg => ?_⟩
      · rw [List.length_map]
        refine Nat.le_trans (dpS_len ps limit ps.length) (Nat.le_trans (Nat.mul_le_mul h4 h4) (by decide))
      · obtain ⟨p, _, rfl⟩ := List.mem_map.1 hg
        exact Nat.le_refl 2
    · simp
  · simp
theorem dpS_lex {ps : List Si} (hv : areSi ps = true) (limit : Int) : ((dpS ps limit ps.length).map (dpR ps)).Pairwise fun p q => ∃ a b c d, p = [a, b] ∧ q = [c, d] ∧ (a < c ∨ (a = c ∧ b < d)) := by
  rw [List.pairwise_map]
  refine List.Pairwise.imp_of_mem ?_ (dpS_up ps limit ps.length)
  intro p q hp hq h
  obtain ⟨p1, p2, _⟩ := dpS_mem.1 hp
  obtain ⟨q1, q2, _⟩ := dpS_mem.1 hq
  refine ⟨_, _, _, _, rfl, rfl, ?_⟩
  rcases h with h | ⟨h1, h2⟩
  · exact .inl (dp_sid hv h q1)
  · exact .inr ⟨by rw [h1], dp_sid hv h2 q2⟩
/-- put in order, the program's pairs are the reference's -/
theorem dp_same {ps : List Si} {limit : Int} (hv : areSi ps = true) {rows : List (List Int)} (hp : rows.Perm ((dpP ps limit).map (dpR ps))) (hl : rows.Pairwise lexL) : rows = (dpS ps limit ps.length).map (dpR ps) := by
  have hperm := hp.trans ((dpP_perm (edge_sym (limit := limit) (areSi_nd hv))).map (dpR ps))
  refine List.Perm.eq_of_pairwise (le := lexL) (fun a b _ _ h1 h2 => ?_) hl ((dpS_lex hv limit).imp fun {p q} h => ?_) hperm
  · obtain ⟨x, y, z, w, rfl, rfl, h⟩ := h1
    obtain ⟨x', y', z', w', e1, e2, h'⟩ := h2
    cases e1
    cases e2
    rw [show x = z by omega, show y = w by omega]
  · obtain ⟨a, b, c, d, h1, h2, h3⟩ := h
    exact ⟨a, b, c, d, h1, h2, by omega⟩
theorem dp_nd {ps : List Si} {limit : Int} (hv : areSi ps = true) : ((dpP ps limit).map (dpR ps)).Nodup := by
  have hperm := (dpP_perm (edge_sym (limit := limit) (areSi_nd hv))).map (dpR ps)
  refine hperm.symm.nodup ((dpS_lex hv limit).imp fun {p q} h e => ?_)
  obtain ⟨a, b, c, d, h1, h2, h3⟩ := h
  subst e
  rw [h1] at h2
  cases h2
  omega

end Go.Proofs.YtafenginfojcmaaGreatDoor
set_option maxRecDepth 8000
set_option linter.unusedSimpArgs false
set_option linter.unusedVariables false
namespace Go.Proofs.YtafenginfojcmaaGreatDoor
open Go Go.RowKit

set_option maxHeartbeats 4000000

def q_dp : Con := fun args H K => match args with
  | [ps_v, .c (.int .i64 limit)] => eSi.rd H (fun ps => (∀ p ∈ ps, p.traits.length ≤ 1048576) ∧ Stop (∀ H' b cs, H'.WF → Sub H H' → IIRows H' b cs (dpRes ps limit).1 → (∀ c ∈ b :: cs, H.n ≤ c) → K (.tup [.c (.sl (b) (0) ((dpRes ps limit).1.length)), .c (.bool ((dpRes ps limit).2))]) H') ()) ps_v
  | _ => False
@[simp ↓] theorem q_dp_eq (ps_v : AV) (limit : Int) (H : AHeap) (K : AV → AHeap → Prop) : q_dp [ps_v, .c (.int .i64 limit)] H K = (eSi.rd H (fun ps => (∀ p ∈ ps, p.traits.length ≤ 1048576) ∧ Stop (∀ H' b cs, H'.WF → Sub H H' → IIRows H' b cs (dpRes ps limit).1 → (∀ c ∈ b :: cs, H.n ≤ c) → K (.tup [.c (.sl (b) (0) ((dpRes ps limit).1.length)), .c (.bool ((dpRes ps limit).2))]) H') ()) ps_v) := rfl

theorem impl_DoubtfulPairs_s : Sound Tryz.prog 10 q_dp := by
  intro args H K h
  unfold q_dp at h
  split at h
  rotate_left
  all_goals first | exact False.elim h | skip
  rename_i ps_v limit
  have h1 := EncH.rd_at h
  clear h
  obtain ⟨b_ps, i_ps, k_ps, ps, rfl, hat_ps, h⟩ := h1
  have hE := soundE_cons impl_areSightings_s (soundE_cons impl_inRange_s (soundE_cons impl_sightingGroups_s (soundE_cons impl_evidence_s (soundE_cons slices_SortFunc_____int___int_s (soundE_nil (P := Tryz.prog))))))
  refine acalls_fn impl_DoubtfulPairs_k hE ⟨by simp, fun hwf => ?_⟩
  obtain ⟨hsr, hsp, hst, hss, hsk⟩ := hs_of hwf
  have hon_ps := hat_ps.on
  have hb_ps : b_ps < H.n := (hwf b_ps k_ps hat_ps.blk).1
  have hne_ps : (b_ps = H.n) = False := eq_false (by omega)
  have hne1_ps : ∀ i, (b_ps = H.n + i) = False := fun i => eq_false (by omega)
  have hne2_ps := ne2_of (a := b_ps) (b := H.n) (by omega)
  have hmx_ps : ps.length ≤ 9223372036854775807 := by have h1 := (hwf b_ps k_ps hat_ps.blk).2.2; have h2 := hat_ps.len; omega
  obtain ⟨hl, h⟩ := h
  by_cases hv : areSi ps = true
  rotate_left
  · have hR : dpRes ps limit = ([], false) := by unfold dpRes; rw [if_neg hv]
    rw [hR] at h
    simp (config := {contextual := true, implicitDefEqProofs := false, maxSteps := 2000000}) [-Int.not_le, -Int.not_lt, argsF, impl_DoubtfulPairs_c, hat_ps.blk, hat_ps.esz, hat_ps.len, hon_ps, hne_ps, hne1_ps, hne2_ps, hsr, hsp, hst, hss, hsk, hv]
    exact .one (k := iiK [] []) (c := none) hwf (.refl _) ⟨rfl, rfl⟩ (by simp) (by simp [frOk, AV.okR, AV.ok1, AC.okR, AV.ren, AV.ren1, AC.ren, AFrame.get, pl1_old, *]; first | done | rfl | omega) (Stop.go h (H.push (iiK [] [])) H.n [] (WF.push hwf (by simp) (by simp)) (Sub.push hwf (.refl _) _) iiK_rows (by simp))
  by_cases hr : inR limit (-30) 16 = true
  rotate_left
  · have hR : dpRes ps limit = ([], false) := by unfold dpRes; rw [if_pos hv, if_neg hr]
    rw [hR] at h
    simp (config := {contextual := true, implicitDefEqProofs := false, maxSteps := 2000000}) [-Int.not_le, -Int.not_lt, argsF, impl_DoubtfulPairs_c, hat_ps.blk, hat_ps.esz, hat_ps.len, hon_ps, hne_ps, hne1_ps, hne2_ps, hsr, hsp, hst, hss, hsk, hv, hr]
    exact .one (k := iiK [] []) (c := none) hwf (.refl _) ⟨rfl, rfl⟩ (by simp) (by simp [frOk, AV.okR, AV.ok1, AC.okR, AV.ren, AV.ren1, AC.ren, AFrame.get, pl1_old, *]; first | done | rfl | omega) (Stop.go h (H.push (iiK [] [])) H.n [] (WF.push hwf (by simp) (by simp)) (Sub.push hwf (.refl _) _) iiK_rows (by simp))
  have hR : dpRes ps limit = ((dpS ps limit ps.length).map (dpR ps), true) := by unfold dpRes; rw [if_pos hv, if_pos hr]
  rw [hR] at h
  have hsym := edge_sym (limit := limit) (areSi_nd hv)
  have hpl := areSi_len hv

  simp (config := {contextual := true, implicitDefEqProofs := false, maxSteps := 2000000}) [-Int.not_le, -Int.not_lt, argsF, impl_DoubtfulPairs_c, hat_ps.blk, hat_ps.esz, hat_ps.len, hon_ps, hne_ps, hne1_ps, hne2_ps, hsr, hsp, hst, hss, hsk, hv, hr, hpl, hl, hsym]
  refine Stop.mk fun H1 b1 k1 hw1 hs1 hat1 => ?_
  have hn1 : H.n ≤ H1.n := hs1.1.1
  have hb1 : b1 < H1.n := (hw1 _ _ hat1.blk).1
  have hbp : b_ps < H1.n := by omega
  have hall : ∀ g ∈ groupsTo (edge ps limit) ps.length ps.length, ∀ x ∈ g, x < ps.length := fun g hg x hx => by
    unfold groupsTo at hg
    obtain ⟨i, _, rfl⟩ := List.mem_map.1 hg
    exact (mem_comp.1 hx).lt
  have hlen : ∀ g ∈ groupsTo (edge ps limit) ps.length ps.length, g.length ≤ ps.length := fun g hg => by
    unfold groupsTo at hg
    obtain ⟨i, _, rfl⟩ := List.mem_map.1 hg
    exact nodup_len _ _ (comp_up.imp fun {a b} h => by omega) fun x hx => (mem_comp.1 hx).lt
  have hgl := groupsTo_len (edge ps limit) ps.length ps.length
  have hP : ∀ (rows : List (List Int)), rows.Perm ((dpP ps limit).map (dpR ps)) → rows.Pairwise lexL → rows = (dpS ps limit ps.length).map (dpR ps) := fun rows => dp_same hv
  have hPn := dp_nd (limit := limit) hv
  have hP2 : ∀ p ∈ (dpP ps limit).map (dpR ps), p.length = 2 := fun p hp => by
    obtain ⟨q, _, rfl⟩ := List.mem_map.1 hp
    rfl
  have hPl : ((dpP ps limit).map (dpR ps)).length ≤ 100 := by
    rw [List.length_map, (dpP_perm hsym).length_eq]
    exact Nat.le_trans (dpS_len ps limit ps.length) (Nat.le_trans (Nat.mul_le_mul hpl hpl) (by decide))
  have hdp : (dpP ps limit).map (dpR ps) = ((groupsTo (edge ps limit) ps.length ps.length).flatMap (pG ps limit)).map (dpR ps) := rfl
  generalize (dpP ps limit).map (dpR ps) = TT at hP hPn hP2 hPl hdp
  generalize (dpS ps limit ps.length).map (dpR ps) = SS at h hP
  generalize hgs : groupsTo (edge ps limit) ps.length ps.length = gs at hat1 hgl hall hlen hdp
  simp (config := {contextual := true, implicitDefEqProofs := false, maxSteps := 2000000}) [-Int.not_le, -Int.not_lt, argsF, hat1.blk, hat1.esz, hgs]
  have key0 : ∀ {Q : Exit → AFrame → AHeap → Prop} (x : CX) (c o : Nat) (kc : ABlk) (gg : List Nat) (jj i a : Nat) (R2 : List (List Int)), x.Ok H1 H.n → H1.n ≤ x.b → eI.At H1 c o kc (nats gg) → (∀ x ∈ gg, x < ps.length) → gg.length ≤ ps.length → i + 1 ≤ gg.length → a < ps.length → x.rows ++ ((pI ps limit a (gg.drop (i + 1))).map (dpR ps) ++ R2) = TT →
      (∀ y : CX, y.Ok H1 H.n → H1.n ≤ y.b → y.b < y.H.n → y.rows ++ R2 = TT → Q (.exit 4) ([(0, .c (.sl b_ps i_ps ps.length)), (1, .c (.int .i64 (limit))), (6, .c (.sl (y.b) (0) (y.rows.length))), (8, .c (.sl (c) (o) (gg.length))), (10, .c (.int .i64 ((a : Int)))), (23, .c (.sl (b1) (0) (gs.length))), (24, .c (.int .i64 gs.length)), (25, .c (.int .i64 ((jj : Int)))), (29, .c (.sl (c) (o) (gg.length))), (30, .c (.int .i64 gg.length)), (31, .c (.int .i64 ((i : Int)))), (39, .c (.sl (c) (o + (i + 1)) (gg.length - (i + 1)))), (40, .c (.int .i64 (((gg.length - (i + 1) : Nat) : Int)))), (41, .c (.int .i64 (((gg.length - (i + 1) : Nat) : Int)))), (42, .c (.bool (false)))]) y.H) → ALoop Tryz.prog 76 H.n impl_DoubtfulPairs_l0 ([(0, .c (.sl b_ps i_ps ps.length)), (1, .c (.int .i64 (limit))), (6, .c (.sl (x.b) (0) (x.rows.length))), (8, .c (.sl (c) (o) (gg.length))), (10, .c (.int .i64 ((a : Int)))), (23, .c (.sl (b1) (0) (gs.length))), (24, .c (.int .i64 gs.length)), (25, .c (.int .i64 ((jj : Int)))), (29, .c (.sl (c) (o) (gg.length))), (30, .c (.int .i64 gg.length)), (31, .c (.int .i64 ((i : Int)))), (39, .c (.sl (c) (o + (i + 1)) (gg.length - (i + 1)))), (40, .c (.int .i64 (((gg.length - (i + 1) : Nat) : Int)))), (41, .c (.int .i64 (0)))]) x.H Q := by
    intro Q x c o kc gg jj i a R2 hok hbn hatc1 hgall hglen hi ha hrw hQ
    have hnx1 := hok.sub.1.1
    have hnx : H.n ≤ x.H.n := by omega
    have hcb : c < H1.n := (hw1 _ _ hatc1.blk).1
    refine aloop_heap (X := CX × Nat) (fun y => [(0, .c (.sl b_ps i_ps ps.length)), (1, .c (.int .i64 (limit))), (6, .c (.sl (y.1.b) (0) (y.1.rows.length))), (8, .c (.sl (c) (o) (gg.length))), (10, .c (.int .i64 ((a : Int)))), (23, .c (.sl (b1) (0) (gs.length))), (24, .c (.int .i64 gs.length)), (25, .c (.int .i64 ((jj : Int)))), (29, .c (.sl (c) (o) (gg.length))), (30, .c (.int .i64 gg.length)), (31, .c (.int .i64 ((i : Int)))), (39, .c (.sl (c) (o + (i + 1)) (gg.length - (i + 1)))), (40, .c (.int .i64 (((gg.length - (i + 1) : Nat) : Int)))), (41, .c (.int .i64 ((y.2 : Int))))]) (fun y => y.1.H) (fun y => y.1.Ok H1 H.n ∧ H1.n ≤ y.1.b ∧ y.2 ≤ gg.length - (i + 1) ∧ y.1.rows ++ ((pI ps limit a (gg.drop (i + 1 + y.2))).map (dpR ps) ++ R2) = TT) (fun y => gg.length - (i + 1) - y.2) hE _ (x, 0) ⟨hok, hbn, Nat.zero_le _, hrw⟩ (fun hw0 => by have hxb : x.b < x.H.n := hok.rows.bnd hw0 _ (by simp); exact .since hnx hw0 (.refl _) (by simp [frOk, AV.okR, AV.ok1, AC.okR, AV.ren, AV.ren1, AC.ren, AFrame.get, pl1_old, *]; first | done | rfl | omega)) (fun y hy hwy => ?_)
    obtain ⟨y, q⟩ := y
    obtain ⟨hoky, hbny, hq, hrwy⟩ := hy
    simp only at hoky hbny hq hrwy
    have hny1 := hoky.sub.1.1
    have hny : H.n ≤ y.H.n := by omega
    have hyb : y.b < y.H.n := hoky.rows.bnd hwy _ (by simp)
    rcases Nat.lt_or_ge q (gg.length - (i + 1)) with hqlt | hqge
    rotate_left
    · have hqe : q = gg.length - (i + 1) := by omega
      rw [List.drop_eq_nil_of_le (by omega)] at hrwy
      have hnl : ¬ (q : Int) < ((gg.length - (i + 1) : Nat) : Int) := by omega
      clear hrw
      subst hqe
      simp (config := {contextual := true, implicitDefEqProofs := false, maxSteps := 2000000}) [-Int.not_le, -Int.not_lt, argsF, impl_DoubtfulPairs_l0]
      exact hQ y hoky hbny hyb hrwy
    have hk0 : i + 1 + q < gg.length := by omega
    have hq1 : (q : Int) < ((gg.length - (i + 1) : Nat) : Int) := by omega
    have w2 : IntKind.i64.wrap ((q : Int) + 1) = (q : Int) + 1 := wrap_id (by omega) (by omega)
    have hatc : eI.At y.H c o kc (nats gg) := ⟨hoky.sub.1.2 _ _ hatc1.blk, hatc1.esz, hatc1.len, hatc1.els⟩
    have er := hatc.get (j := i + 1 + q) (by rw [nats_len]; exact hk0)
    rw [show (nats gg)[i + 1 + q]'(by rw [nats_len]; exact hk0) = (gg[i + 1 + q] : Int) by simp [nats], ← Nat.add_assoc o (i + 1) q] at er
    have hkp := hgall _ (List.getElem_mem hk0)
    rw [List.drop_eq_getElem_cons hk0, pI_c, List.map_append, List.append_assoc] at hrwy
    generalize gg[i + 1 + q] = k at er hkp hrwy
    have hai : ((a : Int) < (ps.length : Int)) = True := eq_true (by omega)
    have hki : ((k : Int) < (ps.length : Int)) = True := eq_true (by omega)
    have hrb := hoky.rows.blk
    have hrl := hoky.rows.len
    have hll0 := congrArg List.length hrwy
    simp only [List.length_append] at hll0
    have hb3 : (y.rows.length + 1) * 24 ≤ 140737488355328 := by omega
    have hb4 : y.rows.length + 1 ≤ 140737488355328 := by omega
    have qc : (c = y.H.n) = False := eq_false (by omega)
    have qp : (b_ps = y.H.n) = False := eq_false (by omega)
    have qb : (y.b = y.H.n) = False := eq_false (by omega)
    have qb2 : (y.b = y.H.n + 1) = False := eq_false (by omega)
    have hat_ps1 : eSi.At H1 b_ps i_ps k_ps ps := hat_ps.sub hs1
    have hat_ps : eSi.At y.H b_ps i_ps k_ps ps := hat_ps1.sub hoky.sub
    have hwf0 := hwf
    have hwf := hwy
    obtain ⟨ex_u, e_u, hd_u⟩ := hat_ps.get ha
    obtain ⟨b_u, i_u, k_u, rfl, hat_u, htx_u⟩ := eSi_at hd_u
    have hb_u : b_u < y.H.n := (hwf b_u k_u hat_u.blk).1
    have hne_u : (b_u = y.H.n) = False := eq_false (by omega)
    have hne1_u : ∀ i, (b_u = y.H.n + i) = False := fun i => eq_false (by omega)
    have hne2_u := ne2_of (a := b_u) (b := y.H.n) (by omega)
    obtain ⟨ex_v, e_v, hd_v⟩ := hat_ps.get hkp
    obtain ⟨b_v, i_v, k_v, rfl, hat_v, htx_v⟩ := eSi_at hd_v
    have hb_v : b_v < y.H.n := (hwf b_v k_v hat_v.blk).1
    have hne_v : (b_v = y.H.n) = False := eq_false (by omega)
    have hne1_v : ∀ i, (b_v = y.H.n + i) = False := fun i => eq_false (by omega)
    have hne2_v := ne2_of (a := b_v) (b := y.H.n) (by omega)
    have hla := hl _ (List.getElem_mem ha)
    have hlb := hl _ (List.getElem_mem hkp)
    have hsa : sid ps a = ps[a].id := by simp [sid, List.getD_eq_getElem?_getD, ha]
    have hsk : sid ps k = ps[k].id := by simp [sid, List.getD_eq_getElem?_getD, hkp]
    have hed : edge ps limit a k = decide (limit ≤ evid ps[a] ps[k]) := by simp [edge, List.getD_eq_getElem?_getD, ha, hkp]
    clear hrw hQ
    by_cases he : limit ≤ evid ps[a] ps[k]
    · rw [if_pos (by rw [hed]; exact decide_eq_true he)] at hrwy
      have he2 : ¬ evid ps[a] ps[k] < limit := by omega
      simp (config := {contextual := true, implicitDefEqProofs := false, maxSteps := 2000000}) [-Int.not_le, -Int.not_lt, argsF, impl_DoubtfulPairs_l0, hq1, hqlt, hatc.blk, hatc.esz, er, hat_ps.blk, hat_ps.esz, hat_ps.len, hon_ps, hne_ps, hne1_ps, hne2_ps, hai, hki, ha, hkp, e_u, htx_u, hat_u.blk, hat_u.esz, hat_u.len, hat_u.els, hne_u, hne1_u, hne2_u, e_v, htx_v, hat_v.blk, hat_v.esz, hat_v.len, hat_v.els, hne_v, hne1_v, hne2_v, hla, hlb, he2, w2]
      have hnx2 : y.rows ++ ((pI ps limit a (gg.drop (i + 1 + (q + 1)))).map (dpR ps) ++ R2) = TT := by rw [show i + 1 + (q + 1) = i + 1 + q + 1 by omega]; simpa using hrwy
      exact ⟨fun hw => ⟨(y, q + 1), ⟨hoky, hbny, hqlt, hnx2⟩, by simp only; omega, .since hny hw (.refl _) (by simp [frOk, AV.okR, AV.ok1, AC.okR, AV.ren, AV.ren1, AC.ren, AFrame.get, pl1_old, *]; first | done | rfl | omega)⟩⟩
    · rw [if_neg (by rw [hed]; simpa using he)] at hrwy
      have he2 : evid ps[a] ps[k] < limit := by omega
      simp (config := {contextual := true, implicitDefEqProofs := false, maxSteps := 2000000}) [-Int.not_le, -Int.not_lt, argsF, impl_DoubtfulPairs_l0, hq1, hqlt, hatc.blk, hatc.esz, er, hat_ps.blk, hat_ps.esz, hat_ps.len, hon_ps, hne_ps, hne1_ps, hne2_ps, hai, hki, ha, hkp, e_u, htx_u, hat_u.blk, hat_u.esz, hat_u.len, hat_u.els, hne_u, hne1_u, hne2_u, e_v, htx_v, hat_v.blk, hat_v.esz, hat_v.len, hat_v.els, hne_v, hne1_v, hne2_v, hla, hlb, he2, w2, hrb, hrl, qc, qp, qb, qb2, hb3, hb4]
      rw [iiK_add (m := 2) (C := [ps[a].id, ps[k].id]) hrl rfl]
      have hnx2 : (y.rows ++ [[ps[a].id, ps[k].id]]) ++ ((pI ps limit a (gg.drop (i + 1 + (q + 1)))).map (dpR ps) ++ R2) = TT := by
        rw [show i + 1 + (q + 1) = i + 1 + q + 1 by omega, List.append_assoc, ← hsa, ← hsk]
        exact hrwy
      exact ⟨fun hw => ⟨(⟨_, y.H.n + 1 + 1, y.cs ++ [y.H.n], y.rows ++ [[ps[a].id, ps[k].id]]⟩, q + 1), ⟨hoky.add hw1 hwy hn1 hbny _ _, by simp only; omega, hqlt, hnx2⟩, by simp only; omega, .since (by simp only [push_n, kill_n]; omega) hw (.refl _) (by simp [frOk, AV.okR, AV.ok1, AC.okR, AV.ren, AV.ren1, AC.ren, AFrame.get, pl1_old, *]; first | done | rfl | omega)⟩⟩
  have key1 : ∀ {Q : Exit → AFrame → AHeap → Prop} (x : CX) (c o : Nat) (kc : ABlk) (gg : List Nat) (j : Nat) (RR : List (List Int)), x.Ok H1 H.n → H1.n ≤ x.b → eI.At H1 c o kc (nats gg) → (∀ x ∈ gg, x < ps.length) → gg.length ≤ ps.length → x.rows ++ ((pG ps limit gg).map (dpR ps) ++ RR) = TT →
      (∀ y : CX, y.Ok H1 H.n → H1.n ≤ y.b → y.b < y.H.n → y.rows ++ RR = TT → Q (.exit 2) ([(0, .c (.sl b_ps i_ps ps.length)), (1, .c (.int .i64 (limit))), (6, .c (.sl (y.b) (0) (y.rows.length))), (8, .c (.sl (c) (o) (gg.length))), (23, .c (.sl (b1) (0) (gs.length))), (24, .c (.int .i64 gs.length)), (25, .c (.int .i64 ((j : Int)))), (29, .c (.sl (c) (o) (gg.length))), (30, .c (.int .i64 gg.length)), (31, .c (.int .i64 gg.length)), (32, .c (.bool (false)))]) y.H) → ALoop Tryz.prog 76 H.n impl_DoubtfulPairs_l1 ([(0, .c (.sl b_ps i_ps ps.length)), (1, .c (.int .i64 (limit))), (6, .c (.sl (x.b) (0) (x.rows.length))), (8, .c (.sl (c) (o) (gg.length))), (23, .c (.sl (b1) (0) (gs.length))), (24, .c (.int .i64 gs.length)), (25, .c (.int .i64 ((j : Int)))), (29, .c (.sl (c) (o) (gg.length))), (30, .c (.int .i64 gg.length)), (31, .c (.int .i64 (0)))]) x.H Q := by
    intro Q x c o kc gg j RR hok hbn hatc1 hgall hglen hrw hQ
    have hnx1 := hok.sub.1.1
    have hnx : H.n ≤ x.H.n := by omega
    have hcb : c < H1.n := (hw1 _ _ hatc1.blk).1
    have hgl2 : (gg.length : Int) ≤ 10 := by omega
    refine aloop_heap (X := CX × Nat) (fun y => [(0, .c (.sl b_ps i_ps ps.length)), (1, .c (.int .i64 (limit))), (6, .c (.sl (y.1.b) (0) (y.1.rows.length))), (8, .c (.sl (c) (o) (gg.length))), (23, .c (.sl (b1) (0) (gs.length))), (24, .c (.int .i64 gs.length)), (25, .c (.int .i64 ((j : Int)))), (29, .c (.sl (c) (o) (gg.length))), (30, .c (.int .i64 gg.length)), (31, .c (.int .i64 ((y.2 : Int))))]) (fun y => y.1.H) (fun y => y.1.Ok H1 H.n ∧ H1.n ≤ y.1.b ∧ y.2 ≤ gg.length ∧ y.1.rows ++ ((pG ps limit (gg.drop y.2)).map (dpR ps) ++ RR) = TT) (fun y => gg.length - y.2) hE _ (x, 0) ⟨hok, hbn, Nat.zero_le _, by simpa using hrw⟩ (fun hw0 => by have hxb : x.b < x.H.n := hok.rows.bnd hw0 _ (by simp); exact .since hnx hw0 (.refl _) (by simp [frOk, AV.okR, AV.ok1, AC.okR, AV.ren, AV.ren1, AC.ren, AFrame.get, pl1_old, *]; first | done | rfl | omega)) (fun y hy hwy => ?_)
    obtain ⟨y, i⟩ := y
    obtain ⟨hoky, hbny, hi, hrwy⟩ := hy
    simp only at hoky hbny hi hrwy
    have hny1 := hoky.sub.1.1
    have hny : H.n ≤ y.H.n := by omega
    have hyb : y.b < y.H.n := hoky.rows.bnd hwy _ (by simp)
    rcases Nat.lt_or_ge i gg.length with hilt | hige
    rotate_left
    · obtain rfl : i = gg.length := by omega
      simp only [List.drop_length, pG, List.map_nil, List.nil_append] at hrwy
      simp (config := {contextual := true, implicitDefEqProofs := false, maxSteps := 2000000}) [-Int.not_le, -Int.not_lt, argsF, impl_DoubtfulPairs_l1]
      exact hQ y hoky hbny hyb hrwy
    have hi1 := idx_lt hilt
    have w2 : IntKind.i64.wrap ((i : Int) + 1) = (i : Int) + 1 := wrap_id (by omega) (by omega)
    have hatc : eI.At y.H c o kc (nats gg) := ⟨hoky.sub.1.2 _ _ hatc1.blk, hatc1.esz, hatc1.len, hatc1.els⟩
    have er := hatc.get (j := i) (by rw [nats_len]; exact hilt)
    rw [show (nats gg)[i]'(by rw [nats_len]; exact hilt) = (gg[i] : Int) by simp [nats]] at er
    have hcl := hatc.len
    rw [nats_len] at hcl
    have hia := hgall _ (List.getElem_mem hilt)
    rw [List.drop_eq_getElem_cons hilt, pG, List.map_append, List.append_assoc] at hrwy
    generalize hR2 : (pG ps limit (gg.drop (i + 1))).map (dpR ps) ++ RR = R2 at hrwy
    generalize gg[i] = a at hia er hrwy
    have m1 : ((gg.length : Int) - ((i : Int) + 1)).toNat = gg.length - (i + 1) := by omega
    have m2 : max ((gg.length : Int) - ((i : Int) + 1)) 0 = ((gg.length - (i + 1) : Nat) : Int) := by omega
    clear hrw hQ
    simp (config := {contextual := true, implicitDefEqProofs := false, maxSteps := 2000000}) [-Int.not_le, -Int.not_lt, argsF, impl_DoubtfulPairs_l1, hi1, hilt, hatc.blk, hatc.esz, er, hcl, w2, m1, m2]
    refine ⟨by omega, by omega, key0 y c o kc gg j i a R2 hoky hbny hatc1 hgall hglen (by omega) hia hrwy fun z h1 h2 hzb h3 => ?_⟩
    have hnz1 := h1.sub.1.1
    have hnz : H.n ≤ z.H.n := by omega
    simp (config := {contextual := true, implicitDefEqProofs := false, maxSteps := 2000000}) [-Int.not_le, -Int.not_lt, argsF, w2]
    exact ⟨fun hw => ⟨(z, i + 1), ⟨h1, h2, hilt, by rw [hR2]; exact h3⟩, by simp only; omega, .since hnz hw (.refl _) (by simp [frOk, AV.okR, AV.ok1, AC.okR, AV.ren, AV.ren1, AC.ren, AFrame.get, pl1_old, *]; first | done | rfl | omega)⟩⟩
  refine aloop_heap (X := CX × Nat) (fun x => [(0, .c (.sl b_ps i_ps ps.length)), (1, .c (.int .i64 (limit))), (6, .c (.sl (x.1.b) (0) (x.1.rows.length))), (23, .c (.sl (b1) (0) (gs.length))), (24, .c (.int .i64 gs.length)), (25, .c (.int .i64 ((x.2 : Int))))]) (fun x => x.1.H)
    (fun x => x.1.Ok H1 H.n ∧ H1.n ≤ x.1.b ∧ x.2 ≤ gs.length ∧ x.1.rows ++ ((gs.drop x.2).flatMap (pG ps limit)).map (dpR ps) = TT) (fun x => gs.length - x.2) hE _
    (⟨H1.push (iiK [] []), H1.n, [], []⟩, 0) ⟨⟨Sub.push hw1 (.refl _) _, iiK_rows, by simp; omega⟩, Nat.le_refl _, Nat.zero_le _, by simpa using hdp.symm⟩ (fun hw0 => .le hn1 (.one (c := none) hw1 (.refl _) ⟨rfl, rfl⟩ (by simp) (by simp [frOk, AV.okR, AV.ok1, AC.okR, AV.ren, AV.ren1, AC.ren, AFrame.get, pl1_old, *]; first | done | rfl | omega))) (fun x hx hwx => ?_)
  obtain ⟨x, j⟩ := x
  obtain ⟨hok, hbn, hj, hrw⟩ := hx
  simp only at hok hbn hj hrw
  have hnx1 := hok.sub.1.1
  have hnx : H.n ≤ x.H.n := by omega
  have hxb : x.b < x.H.n := hok.rows.bnd hwx _ (by simp)
  rcases Nat.lt_or_ge j gs.length with hlt | hge
  rotate_left
  · obtain rfl : j = gs.length := by omega
    simp only [List.drop_length, List.flatMap_nil, List.map_nil, List.append_nil] at hrw
    simp (config := {contextual := true, implicitDefEqProofs := false, maxSteps := 2000000}) [-Int.not_le, -Int.not_lt, argsF, impl_DoubtfulPairs_l2]
    refine Stop.mk ⟨x.cs, x.rows, rfl, rfl, rfl, rfl, hok.rows, by rw [hrw]; exact hPn, by rw [hrw]; exact hP2, by rw [hrw]; omega, fun cs' rows' hp hs hm hII => ?_⟩
    have er := hP rows' (by rw [← hrw]; exact hp) hs
    subst er
    have hll := hp.length_eq
    rw [← hll]
    refine Out.whole hnx (by simp [frOk, AV.okR, AV.ok1, AC.okR, AV.ren, AV.ren1, AC.ren, AFrame.get, pl1_old, *]; first | done | rfl | omega) fun hw => Stop.go h (x.H.set x.b (iiK cs' rows')) x.b cs' hw (Sub.set hwf (hs1.trans hok.sub) (by omega) _) hII fun c hc => ?_
    rcases List.mem_cons.1 hc with rfl | hc
    · exact hok.ge _ (by simp)
    · exact hok.ge _ (by simp [hm c hc])
  have hj1 := idx_lt hlt
  have w1 : IntKind.i64.wrap ((j : Int) + 1) = (j : Int) + 1 := wrap_id (by omega) (by omega)
  have hat1' := hat1.sub hok.sub
  obtain ⟨ex, ee, hd⟩ := hat1.get (j := j) (by simpa using hlt)
  rw [Nat.zero_add] at ee
  rw [List.getElem_map] at hd
  obtain ⟨c, o, kc, rfl, hatc1⟩ := eII_at hd
  have hgall := hall _ (List.getElem_mem hlt)
  have hglen := hlen _ (List.getElem_mem hlt)
  rw [List.drop_eq_getElem_cons hlt, List.flatMap_cons, List.map_append] at hrw
  generalize hRR : ((gs.drop (j + 1)).flatMap (pG ps limit)).map (dpR ps) = RR at hrw
  generalize gs[j] = gg at hd hatc1 ee hgall hglen hrw
  rw [nats_len] at ee
  have hcb : c < H1.n := (hw1 _ _ hatc1.blk).1
  have hgl2 : (gg.length : Int) ≤ 10 := by omega
  simp (config := {contextual := true, implicitDefEqProofs := false, maxSteps := 2000000}) [-Int.not_le, -Int.not_lt, argsF, impl_DoubtfulPairs_l2, hj1, hlt, hat1'.blk, hat1'.esz, ee]
  refine key1 x c o kc gg j RR hok hbn hatc1 hgall hglen hrw fun z h1 h2 hzb h3 => ?_
  have hnz1 := h1.sub.1.1
  have hnz : H.n ≤ z.H.n := by omega
  simp (config := {contextual := true, implicitDefEqProofs := false, maxSteps := 2000000}) [-Int.not_le, -Int.not_lt, argsF, w1]
  exact ⟨fun hw => ⟨(z, j + 1), ⟨h1, h2, hlt, by rw [hRR]; exact h3⟩, by simp only; omega, .since hnz hw (.refl _) (by simp [frOk, AV.okR, AV.ok1, AC.okR, AV.ren, AV.ren1, AC.ren, AFrame.get, pl1_old, *]; first | done | rfl | omega)⟩⟩

end Go.Proofs.YtafenginfojcmaaGreatDoor
set_option maxRecDepth 8000
set_option linter.unusedSimpArgs false
set_option linter.unusedVariables false
namespace Go.Proofs.YtafenginfojcmaaGreatDoor
open Go Go.RowKit

set_option maxHeartbeats 4000000

theorem spec_DoubtfulPairs_s : Sound Tryz.prog 11 q_dp := by
  intro args H K h
  unfold q_dp at h
  split at h
  rotate_left
  all_goals first | exact False.elim h | skip
  rename_i ps_v limit
  have h1 := EncH.rd_at h
  clear h
  obtain ⟨b_ps, i_ps, k_ps, ps, rfl, hat_ps, h⟩ := h1
  have hE := soundE_cons spec_l13Good_s (soundE_cons spec_l13Limit_s (soundE_cons spec_l13Cover_s (soundE_cons spec_l1Has_s (soundE_cons spec_l13Evidence_s (soundE_nil (P := Tryz.prog))))))
  refine acalls_fn spec_DoubtfulPairs_k hE ⟨by simp, fun hwf => ?_⟩
  obtain ⟨hsr, hsp, hst, hss, hsk⟩ := hs_of hwf
  have hon_ps := hat_ps.on
  have hb_ps : b_ps < H.n := (hwf b_ps k_ps hat_ps.blk).1
  have hne_ps : (b_ps = H.n) = False := eq_false (by omega)
  have hne1_ps : ∀ i, (b_ps = H.n + i) = False := fun i => eq_false (by omega)
  have hne2_ps := ne2_of (a := b_ps) (b := H.n) (by omega)
  have hmx_ps : ps.length ≤ 9223372036854775807 := by have h1 := (hwf b_ps k_ps hat_ps.blk).2.2; have h2 := hat_ps.len; omega
  obtain ⟨hl, h⟩ := h
  by_cases hv : areSi ps = true
  rotate_left
  · have hR : dpRes ps limit = ([], false) := by unfold dpRes; rw [if_neg hv]
    rw [hR] at h
    simp (config := {contextual := true, implicitDefEqProofs := false, maxSteps := 2000000}) [-Int.not_le, -Int.not_lt, argsF, spec_DoubtfulPairs_c, hat_ps.blk, hat_ps.esz, hat_ps.len, hon_ps, hne_ps, hne1_ps, hne2_ps, hsr, hsp, hst, hss, hsk, hv]
    exact Out.whole (by simp only [push_n]; omega) (by simp [frOk, AV.okR, AV.ok1, AC.okR, AV.ren, AV.ren1, AC.ren, AFrame.get, pl1_old, *]; first | done | rfl | omega) fun hw => Stop.go h (H.push (iiK [] [])) H.n [] hw (Sub.push hwf (.refl _) _) iiK_rows (by simp)
  by_cases hr : inR limit (-30) 16 = true
  rotate_left
  · have hR : dpRes ps limit = ([], false) := by unfold dpRes; rw [if_pos hv, if_neg hr]
    rw [hR] at h
    simp (config := {contextual := true, implicitDefEqProofs := false, maxSteps := 2000000}) [-Int.not_le, -Int.not_lt, argsF, spec_DoubtfulPairs_c, hat_ps.blk, hat_ps.esz, hat_ps.len, hon_ps, hne_ps, hne1_ps, hne2_ps, hsr, hsp, hst, hss, hsk, hv, hr]
    exact Out.whole (by simp only [push_n]; omega) (by simp [frOk, AV.okR, AV.ok1, AC.okR, AV.ren, AV.ren1, AC.ren, AFrame.get, pl1_old, *]; first | done | rfl | omega) fun hw => Stop.go h (H.push (iiK [] [])) H.n [] hw (Sub.push hwf (.refl _) _) iiK_rows (by simp)
  have hR : dpRes ps limit = ((dpS ps limit ps.length).map (dpR ps), true) := by unfold dpRes; rw [if_pos hv, if_pos hr]
  rw [hR] at h
  have hsym := edge_sym (limit := limit) (areSi_nd hv)
  have hpl := areSi_len hv

  have key0 : ∀ {Q : Exit → AFrame → AHeap → Prop} (x : CX) (b2 o2 : Nat) (k2 : ABlk) (cc : List Nat) (k : Nat), x.Ok H H.n → eI.At x.H b2 o2 k2 (nats cc) → b2 ≠ x.b → cc = comp (edge ps limit) ps.length k → k < ps.length → x.rows = (dpS ps limit k).map (dpR ps) →
      (∀ y : CX, y.Ok H H.n → y.b < y.H.n → y.rows = (dpS ps limit (k + 1)).map (dpR ps) → Q (.exit 2) ([(0, .c (.sl b_ps i_ps ps.length)), (1, .c (.int .i64 (limit))), (6, .c (.sl (y.b) (0) (y.rows.length))), (7, .c (.int .i64 ((k : Int)))), (8, .c (.sl (b2) (o2) (cc.length))), (9, .c (.int .i64 ((ps.length : Int)))), (35, .c (.bool (false)))]) y.H) → ALoop Tryz.prog 69 H.n spec_DoubtfulPairs_l0 ([(0, .c (.sl b_ps i_ps ps.length)), (1, .c (.int .i64 (limit))), (6, .c (.sl (x.b) (0) (x.rows.length))), (7, .c (.int .i64 ((k : Int)))), (8, .c (.sl (b2) (o2) (cc.length))), (9, .c (.int .i64 ((k : Int) + 1)))]) x.H Q := by
    intro Q x b2 o2 k2 cc k hok hatc0 hne0 hcc hk hrw hQ
    have hnx : H.n ≤ x.H.n := hok.sub.1.1
    refine aloop_heap (X := CX × Nat) (fun y => [(0, .c (.sl b_ps i_ps ps.length)), (1, .c (.int .i64 (limit))), (6, .c (.sl (y.1.b) (0) (y.1.rows.length))), (7, .c (.int .i64 ((k : Int)))), (8, .c (.sl (b2) (o2) (cc.length))), (9, .c (.int .i64 ((y.2 : Int))))]) (fun y => y.1.H) (fun y => y.1.Ok H H.n ∧ eI.At y.1.H b2 o2 k2 (nats cc) ∧ b2 ≠ y.1.b ∧ k < y.2 ∧ y.2 ≤ ps.length ∧ y.1.rows = (dpS ps limit k ++ dpT ps limit k y.2).map (dpR ps)) (fun y => ps.length - y.2) hE _ (x, k + 1) ⟨hok, hatc0, hne0, by simp only; omega, hk, by rw [dpT_0, List.append_nil]; exact hrw⟩ (fun hw0 => by have hxb : x.b < x.H.n := hok.rows.bnd hw0 _ (by simp); have hb2 : b2 < x.H.n := (hw0 _ _ hatc0.blk).1; exact .since hnx hw0 (.refl _) (by simp [frOk, AV.okR, AV.ok1, AC.okR, AV.ren, AV.ren1, AC.ren, AFrame.get, pl1_old, *]; first | done | rfl | omega)) (fun y hy hwy => ?_)
    obtain ⟨y, m⟩ := y
    obtain ⟨hoky, hatc, hne, hkm, hm, hrwy⟩ := hy
    simp only at hoky hatc hne hkm hm hrwy
    have hny : H.n ≤ y.H.n := hoky.sub.1.1
    have hyb : y.b < y.H.n := hoky.rows.bnd hwy _ (by simp)
    have hyb0 : H.n ≤ y.b := hoky.ge _ (by simp)
    have hb2 : b2 < y.H.n := (hwy _ _ hatc.blk).1
    rcases Nat.lt_or_ge m ps.length with hmlt | hmge
    rotate_left
    · have hme : m = ps.length := by omega
      subst hme
      rw [← dpS_s] at hrwy
      simp (config := {contextual := true, implicitDefEqProofs := false, maxSteps := 2000000}) [-Int.not_le, -Int.not_lt, argsF, spec_DoubtfulPairs_l0]
      exact hQ y hoky hyb hrwy
    have hmi : ((m : Int) < (ps.length : Int)) = True := eq_true (by omega)
    have hki : ((k : Int) < (ps.length : Int)) = True := eq_true (by omega)
    have w2 : IntKind.i64.wrap ((m : Int) + 1) = (m : Int) + 1 := wrap_id (by omega) (by omega)
    have hrb := hoky.rows.blk
    have hrl := hoky.rows.len
    have hll0 := congrArg List.length hrwy
    have hl1 := dpS_len ps limit k
    have hl1b : k * ps.length ≤ 100 := Nat.le_trans (Nat.mul_le_mul (Nat.le_of_lt hk) (Nat.le_refl _)) (Nat.le_trans (Nat.mul_le_mul hpl hpl) (by decide))
    have hl2b := dpT_len ps limit k m
    rw [List.length_map, List.length_append] at hll0
    have hb3 : (y.rows.length + 1) * 24 ≤ 140737488355328 := by omega
    have hb4 : y.rows.length + 1 ≤ 140737488355328 := by omega
    have qc : (b2 = y.H.n) = False := eq_false (by omega)
    have qp : (b_ps = y.H.n) = False := eq_false (by omega)
    have qb : (y.b = y.H.n) = False := eq_false (by omega)
    have qb2 : (y.b = y.H.n + 1) = False := eq_false (by omega)
    have hat_ps : eSi.At y.H b_ps i_ps k_ps ps := hat_ps.sub hoky.sub
    have hwf0 := hwf
    have hwf := hwy
    have hcl := hatc.len
    have hce := hatc.els
    rw [nats_len] at hcl hce
    obtain ⟨ex_u, e_u, hd_u⟩ := hat_ps.get hk
    obtain ⟨b_u, i_u, k_u, rfl, hat_u, htx_u⟩ := eSi_at hd_u
    have hb_u : b_u < y.H.n := (hwf b_u k_u hat_u.blk).1
    have hne_u : (b_u = y.H.n) = False := eq_false (by omega)
    have hne1_u : ∀ i, (b_u = y.H.n + i) = False := fun i => eq_false (by omega)
    have hne2_u := ne2_of (a := b_u) (b := y.H.n) (by omega)
    obtain ⟨ex_v, e_v, hd_v⟩ := hat_ps.get hmlt
    obtain ⟨b_v, i_v, k_v, rfl, hat_v, htx_v⟩ := eSi_at hd_v
    have hb_v : b_v < y.H.n := (hwf b_v k_v hat_v.blk).1
    have hne_v : (b_v = y.H.n) = False := eq_false (by omega)
    have hne1_v : ∀ i, (b_v = y.H.n + i) = False := fun i => eq_false (by omega)
    have hne2_v := ne2_of (a := b_v) (b := y.H.n) (by omega)
    have hla := hl _ (List.getElem_mem hk)
    have hlb := hl _ (List.getElem_mem hmlt)
    have hsa : sid ps k = ps[k].id := by simp [sid, List.getD_eq_getElem?_getD, hk]
    have hsk : sid ps m = ps[m].id := by simp [sid, List.getD_eq_getElem?_getD, hmlt]
    have hed : edge ps limit k m = decide (limit ≤ evid ps[k] ps[m]) := by simp [edge, List.getD_eq_getElem?_getD, hk, hmlt]
    clear hrw hQ
    by_cases hmc : m ∈ cc
    rotate_left
    · have hmi2 : ((m : Int) ∈ nats cc) = False := eq_false fun hc => hmc (nats_mem.1 hc)
      have hB : dpB ps limit k m = false := by unfold dpB; rw [← hcc]; simp [hmc]
      have hn2 : y.rows = (dpS ps limit k ++ dpT ps limit k (m + 1)).map (dpR ps) := by rw [dpT_s, hB, if_neg (by simp), List.append_nil]; exact hrwy
      simp (config := {contextual := true, implicitDefEqProofs := false, maxSteps := 2000000}) [-Int.not_le, -Int.not_lt, argsF, spec_DoubtfulPairs_l0, hmi, hmlt, hatc.blk, hatc.esz, hcl, hce, hmi2, w2]
      exact ⟨fun hw => ⟨(y, m + 1), ⟨hoky, hatc, hne, by simp only; omega, hmlt, by rw [← List.map_append]; exact hn2⟩, by simp only; omega, .since hny hw (.refl _) (by simp [frOk, AV.okR, AV.ok1, AC.okR, AV.ren, AV.ren1, AC.ren, AFrame.get, pl1_old, *]; first | done | rfl | omega)⟩⟩
    have hmi2 : ((m : Int) ∈ nats cc) = True := eq_true (nats_mem.2 hmc)
    by_cases he : limit ≤ evid ps[k] ps[m]
    · have he2 : ¬ evid ps[k] ps[m] < limit := by omega
      have hB : dpB ps limit k m = false := by unfold dpB; rw [hed, decide_eq_true he]; simp
      have hn2 : y.rows = (dpS ps limit k ++ dpT ps limit k (m + 1)).map (dpR ps) := by rw [dpT_s, hB, if_neg (by simp), List.append_nil]; exact hrwy
      simp (config := {contextual := true, implicitDefEqProofs := false, maxSteps := 2000000}) [-Int.not_le, -Int.not_lt, argsF, spec_DoubtfulPairs_l0, hmi, hki, hmlt, hk, hatc.blk, hatc.esz, hcl, hce, hmi2, hat_ps.blk, hat_ps.esz, hat_ps.len, hon_ps, hne_ps, hne1_ps, hne2_ps, e_u, htx_u, hat_u.blk, hat_u.esz, hat_u.len, hat_u.els, hne_u, hne1_u, hne2_u, e_v, htx_v, hat_v.blk, hat_v.esz, hat_v.len, hat_v.els, hne_v, hne1_v, hne2_v, hla, hlb, he2, w2]
      exact ⟨fun hw => ⟨(y, m + 1), ⟨hoky, hatc, hne, by simp only; omega, hmlt, by rw [← List.map_append]; exact hn2⟩, by simp only; omega, .since hny hw (.refl _) (by simp [frOk, AV.okR, AV.ok1, AC.okR, AV.ren, AV.ren1, AC.ren, AFrame.get, pl1_old, *]; first | done | rfl | omega)⟩⟩
    · have he2 : evid ps[k] ps[m] < limit := by omega
      have hB : dpB ps limit k m = true := by unfold dpB; rw [hed, decide_eq_false he, ← hcc]; simp [hkm, hmc]
      have hn2 : y.rows ++ [[ps[k].id, ps[m].id]] = (dpS ps limit k ++ dpT ps limit k (m + 1)).map (dpR ps) := by
        rw [dpT_s, hB, if_pos rfl, ← List.append_assoc, List.map_append, ← hrwy]
        show _ = y.rows ++ [[sid ps k, sid ps m]]
        rw [hsa, hsk]
      simp (config := {contextual := true, implicitDefEqProofs := false, maxSteps := 2000000}) [-Int.not_le, -Int.not_lt, argsF, spec_DoubtfulPairs_l0, hmi, hki, hmlt, hk, hatc.blk, hatc.esz, hcl, hce, hmi2, hat_ps.blk, hat_ps.esz, hat_ps.len, hon_ps, hne_ps, hne1_ps, hne2_ps, e_u, htx_u, hat_u.blk, hat_u.esz, hat_u.len, hat_u.els, hne_u, hne1_u, hne2_u, e_v, htx_v, hat_v.blk, hat_v.esz, hat_v.len, hat_v.els, hne_v, hne1_v, hne2_v, hla, hlb, he2, w2, hrb, hrl, qc, qp, qb, qb2, hb3, hb4]
      rw [iiK_add (m := 2) (C := [ps[k].id, ps[m].id]) hrl rfl]
      have hat2 : eI.At ((((y.H.push (rowK eI 3 [ps[k].id, ps[m].id])).push ⟨30, 1, false, false, [[.sl y.H.n 0 2]]⟩).kill y.b).push (iiK (y.cs ++ [y.H.n]) (y.rows ++ [[ps[k].id, ps[m].id]]))) b2 o2 k2 (nats cc) := ⟨by rw [push_b, if_neg (by simp only [kill_n, push_n]; omega), kill_b, if_neg hne, push_b, if_neg (by simp only [push_n]; omega), push_b, if_neg (by omega)]; exact hatc.blk, hatc.esz, hatc.len, hatc.els⟩
      exact ⟨fun hw => ⟨(⟨_, y.H.n + 1 + 1, y.cs ++ [y.H.n], y.rows ++ [[ps[k].id, ps[m].id]]⟩, m + 1), ⟨hoky.add hwf0 hwy (Nat.le_refl _) hyb0 _ _, hat2, by simp only; omega, by simp only; omega, hmlt, by rw [← List.map_append]; exact hn2⟩, by simp only; omega, .since (by simp only [push_n, kill_n]; omega) hw (.refl _) (by simp [frOk, AV.okR, AV.ok1, AC.okR, AV.ren, AV.ren1, AC.ren, AFrame.get, pl1_old, *]; first | done | rfl | omega)⟩⟩
  simp (config := {contextual := true, implicitDefEqProofs := false, maxSteps := 2000000}) [-Int.not_le, -Int.not_lt, argsF, spec_DoubtfulPairs_c, hat_ps.blk, hat_ps.esz, hat_ps.len, hon_ps, hne_ps, hne1_ps, hne2_ps, hsr, hsp, hst, hss, hsk, hv, hr, hpl, hl]
  refine aloop_heap (X := CX × Nat) (fun x => [(0, .c (.sl b_ps i_ps ps.length)), (1, .c (.int .i64 (limit))), (6, .c (.sl (x.1.b) (0) (x.1.rows.length))), (7, .c (.int .i64 ((x.2 : Int))))]) (fun x => x.1.H)
    (fun x => x.1.Ok H H.n ∧ x.2 ≤ ps.length ∧ x.1.rows = (dpS ps limit x.2).map (dpR ps)) (fun x => ps.length - x.2) hE _
    (⟨H.push (iiK [] []), H.n, [], []⟩, 0) ⟨⟨Sub.push hwf (.refl _) _, iiK_rows, by simp⟩, Nat.zero_le _, rfl⟩ (fun hw0 => .since (by simp only [push_n]; omega) hw0 (.refl _) (by simp [frOk, AV.okR, AV.ok1, AC.okR, AV.ren, AV.ren1, AC.ren, AFrame.get, pl1_old, *]; first | done | rfl | omega)) (fun x hx hwx => ?_)
  obtain ⟨x, k⟩ := x
  obtain ⟨hok, hk, hrw⟩ := hx
  simp only at hok hk hrw
  have hnx0 := hok.sub.1.1
  have hxb0 : x.b < x.H.n := hok.rows.bnd hwx _ (by simp)
  rcases Nat.lt_or_ge k ps.length with hlt | hge
  rotate_left
  · obtain rfl : k = ps.length := by omega
    simp (config := {contextual := true, implicitDefEqProofs := false, maxSteps := 2000000}) [-Int.not_le, -Int.not_lt, argsF, spec_DoubtfulPairs_l1]
    rw [← hrw] at h
    exact Out.whole hnx0 (by simp [frOk, AV.okR, AV.ok1, AC.okR, AV.ren, AV.ren1, AC.ren, AFrame.get, pl1_old, *]; first | done | rfl | omega) fun hw => Stop.go h x.H x.b x.cs hw hok.sub hok.rows hok.ge
  have hj1 := idx_lt hlt
  have w1 : IntKind.i64.wrap ((k : Int) + 1) = (k : Int) + 1 := wrap_id (by omega) (by omega)
  have hk0 : (0 ≤ (k : Int)) = True := eq_true (by omega)
  have hpx := hat_ps.sub hok.sub
  have hpxo := hpx.on
  have hrr := SubE.refl x.H
  simp (config := {contextual := true, implicitDefEqProofs := false, maxSteps := 2000000}) [-Int.not_le, -Int.not_lt, argsF, spec_DoubtfulPairs_l1, hpx.blk, hpx.esz, hpx.len, hpxo, hrr, hrr.toRo, hj1, hlt, hk0, hpl, hl]
  refine Stop.mk fun H2 b2 o2 k2 hw2 hs2 hat2 => ?_
  have hrows := hok.rows.sub hs2
  have hok2 : (⟨H2, x.b, x.cs, x.rows⟩ : CX).Ok H H.n := ⟨hok.sub.trans hs2, hrows, hok.ge⟩
  have hm : k ∈ comp (edge ps limit) ps.length k := mem_comp.2 (.refl hlt)
  have hne : b2 ≠ x.b := fun e => by
    have e1 := hat2.blk
    rw [e, hrows.blk] at e1
    have hpos : 0 < (nats (comp (edge ps limit) ps.length k)).length := by rw [nats_len]; exact List.length_pos_of_mem hm
    have e2 := hat2.get (j := 0) hpos
    cases e1
    rw [iiK_els, List.getElem?_zipWith] at e2
    cases h1 : x.cs[o2 + 0]? <;> cases h2 : x.rows[o2 + 0]? <;> rw [h1, h2] at e2 <;> cases e2
  simp (config := {contextual := true, implicitDefEqProofs := false, maxSteps := 2000000}) [-Int.not_le, -Int.not_lt, argsF, w1]
  refine key0 ⟨H2, x.b, x.cs, x.rows⟩ b2 o2 k2 _ k hok2 hat2 hne rfl hlt hrw fun z h1 hzb h3 => ?_
  have hnz := h1.sub.1.1
  simp (config := {contextual := true, implicitDefEqProofs := false, maxSteps := 2000000}) [-Int.not_le, -Int.not_lt, argsF, w1]
  exact ⟨fun hw => ⟨(z, k + 1), ⟨h1, hlt, h3⟩, by simp only; omega, .since hnz hw (.refl _) (by simp [frOk, AV.okR, AV.ok1, AC.okR, AV.ren, AV.ren1, AC.ren, AFrame.get, pl1_old, *]; first | done | rfl | omega)⟩⟩

end Go.Proofs.YtafenginfojcmaaGreatDoor
set_option maxRecDepth 8000
set_option linter.unusedSimpArgs false
set_option linter.unusedVariables false
namespace Go.Proofs.YtafenginfojcmaaGreatDoor
open Go Go.RowKit

set_option maxHeartbeats 2000000
theorem id_inj {ps : List Si} (hv : areSi ps = true) {m k : Nat} (hm : m < ps.length) (hk : k < ps.length) (e : ps[m].id = ps[k].id) : m = k := by
  have es : sid ps m = sid ps k := by simp only [sid, List.getD_eq_getElem?_getD, List.getElem?_eq_getElem hm, List.getElem?_eq_getElem hk, Option.getD_some]; exact e
  rcases Nat.lt_trichotomy m k with h | h | h
  · have := dp_sid hv h hk; omega
  · exact h
  · have := dp_sid hv h hm; omega
theorem find_id {ps : List Si} (hv : areSi ps = true) {k : Nat} (hk : k < ps.length) : (ps.find? fun s => decide (s.id = ps[k].id)) = some ps[k] := by
  cases h : ps.find? fun s => decide (s.id = ps[k].id) with
  | none =>
    have := List.find?_eq_none.1 h ps[k] (List.getElem_mem hk)
    simp at this
  | some x =>
    have hm := List.mem_of_find?_eq_some h
    have hp := List.find?_some h
    obtain ⟨m, hm1, rfl⟩ := List.getElem_of_mem hm
    have e := id_inj hv hm1 hk (of_decide_eq_true hp)
    subst e
    rfl
theorem evOf_at {ps : List Si} (hv : areSi ps = true) {i k : Nat} (hi : i < ps.length) (hk : k < ps.length) : evOf ps ps[i].id ps[k].id = (evid ps[i] ps[k], true) := by
  unfold evOf
  rw [if_pos hv, find_id hv hi, find_id hv hk]
theorem spStep_ge {x y : Si} {s : SpS} {t : Int × Int × Int} (h : spStep x y s = some t) : evid x y ≤ t.2.2 ∧ ∀ u, s = some u → u.2.2 ≤ t.2.2 := by
  cases s with
  | none => cases h; exact ⟨Int.le_refl _, fun u hu => by cases hu⟩
  | some v =>
    simp only [spStep] at h
    split at h
    · cases h; exact ⟨Int.le_refl _, fun u hu => by cases hu; simp only; omega⟩
    · cases h; exact ⟨by omega, fun u hu => by cases hu; exact Int.le_refl _⟩
theorem spIn_ge {x : Si} : ∀ (l : List Si) {s : SpS} {t : Int × Int × Int}, spIn x l s = some t → (∀ u, s = some u → u.2.2 ≤ t.2.2) ∧ ∀ y ∈ l, evid x y ≤ t.2.2
  | [], s, t, h => ⟨fun u hu => by rw [spIn] at h; rw [h] at hu; cases hu; exact Int.le_refl _, fun y hy => by cases hy⟩
  | y :: r, s, t, h => by
    rw [spIn] at h
    obtain ⟨h1, h2⟩ := spIn_ge r h
    obtain ⟨v, hv⟩ := spStep_some x y s
    obtain ⟨g1, g2⟩ := spStep_ge hv
    have h3 := h1 v hv
    refine ⟨fun u hu => Int.le_trans (g2 u hu) h3, fun z hz => ?_⟩
    rcases List.mem_cons.1 hz with rfl | hz
    · exact Int.le_trans g1 h3
    · exact h2 z hz
theorem spOut_ge : ∀ (l : List Si) {s : SpS} {t : Int × Int × Int}, spOut l s = some t → (∀ u, s = some u → u.2.2 ≤ t.2.2) ∧ l.Pairwise fun x y => evid x y ≤ t.2.2
  | [], s, t, h => ⟨fun u hu => by rw [spOut] at h; rw [h] at hu; cases hu; exact Int.le_refl _, .nil⟩
  | x :: r, s, t, h => by
    rw [spOut] at h
    obtain ⟨h1, h2⟩ := spOut_ge r h
    refine ⟨fun u hu => ?_, List.pairwise_cons.2 ⟨fun y hy => ?_, h2⟩⟩
    · subst hu
      obtain ⟨v, hv⟩ := spIn_some x r u
      exact Int.le_trans ((spIn_ge r hv).1 u rfl) (h1 v hv)
    · cases hs : spIn x r s with
      | none =>
        cases r with
        | nil => cases hy
        | cons z q =>
          obtain ⟨w, hw⟩ := spStep_some x z s
          obtain ⟨t', ht⟩ := spIn_some x q w
          rw [spIn, hw, ht] at hs
          cases hs
      | some v => exact Int.le_trans ((spIn_ge r hs).2 y hy) (h1 v hs)
/-- the strongest pair is the strongest -/
theorem sp_all {ps : List Si} (h : (spRes ps).2.2.2 = true) : areSi ps = true ∧ ∀ (i k : Nat) (_ : i < k) (hk : k < ps.length), evid (ps[i]'(by omega)) ps[k] ≤ (spRes ps).2.2.1 := by
  by_cases hv : areSi ps = true
  rotate_left
  · unfold spRes at h; rw [if_neg hv] at h; cases h
  refine ⟨hv, ?_⟩
  by_cases h2 : (ps.length : Int) < 2
  · unfold spRes at h; rw [if_pos hv, if_pos h2] at h; cases h
  obtain ⟨t, ht⟩ := spOut_two (l := ps) (by omega)
  have e : spRes ps = (t.1, t.2.1, t.2.2, true) := by unfold spRes; rw [if_pos hv, if_neg h2, ht]
  rw [e]
  intro i k hik hk
  exact List.pairwise_iff_getElem.1 (spOut_ge ps ht).2 i k (by omega) hk hik
theorem sp_ev {ps : List Si} (h : (spRes ps).2.2.2 = true) {i k : Nat} (hik : i < k) (hk : k < ps.length) : (evOf ps (ps[i]'(by omega)).id ps[k].id).2 = true ∧ ¬ (spRes ps).2.2.1 < (evOf ps (ps[i]'(by omega)).id ps[k].id).1 := by
  obtain ⟨hv, ha⟩ := sp_all h
  have := ha i k hik hk
  rw [evOf_at hv (by omega) hk]
  exact ⟨rfl, by simp only; omega⟩
/-- the doubtful pairs are of two, with little evidence -/
theorem dp_all {ps : List Si} {limit : Int} : ∀ g ∈ (dpRes ps limit).1, ∃ x y : Int, g = [x, y] ∧ (evOf ps x y).2 = true ∧ (evOf ps x y).1 < limit := by
  unfold dpRes
  split
  · rename_i hv
    split
    · intro g hg
      obtain ⟨p, hp, rfl⟩ := List.mem_map.1 hg
      obtain ⟨h1, h2, h3⟩ := dpS_mem.1 hp
      simp only [dpB, Bool.and_eq_true, decide_eq_true_eq, Bool.not_eq_true'] at h3
      have h4 := h3.2.2
      have e1 : sid ps p.1 = ps[p.1].id := by simp [sid, List.getD_eq_getElem?_getD, h1]
      have e2 : sid ps p.2 = ps[p.2].id := by simp [sid, List.getD_eq_getElem?_getD, h2]
      refine ⟨sid ps p.1, sid ps p.2, rfl, ?_⟩
      rw [e1, e2, evOf_at hv h1 h2]
      simp only [edge, List.getD_eq_getElem?_getD, List.getElem?_eq_getElem h1, List.getElem?_eq_getElem h2, Option.getD_some, decide_eq_false_iff_not] at h4
      exact ⟨rfl, by simp only; omega⟩
    · intro g hg; cases hg
  · intro g hg; cases hg
theorem ty_ok (ps : List Si) (limit id : Int) : (ysRes ps limit id).2.2 = (trRes ps limit id).2 := by
  unfold ysRes trRes
  split
  · split
    · split <;> rfl
    · rfl
  · rfl
/-- the cover's years and traits hold those of the sighting itself -/
theorem tr_all {ps : List Si} {limit id : Int} (h : (trRes ps limit id).2 = true) {i : Nat} (hi : i < ps.length) (e : ps[i].id = id) :
    (ysRes ps limit id).1 ≤ ps[i].year ∧ ps[i].year ≤ (ysRes ps limit id).2.1 ∧ ∀ t ∈ ps[i].traits, ((trRes ps limit id).1.any fun x => decide (x = t)) = true := by
  by_cases hv : areSi ps = true
  rotate_left
  · unfold trRes at h; rw [if_neg hv] at h; cases h
  by_cases hr : inR limit (-30) 16 = true
  rotate_left
  · unfold trRes at h; rw [if_pos hv, if_neg hr] at h; cases h
  rcases ixOf_find (fun s : Si => decide (s.id = id)) ps with ⟨e1, _⟩ | ⟨m, hm, e1, _, p1, _⟩
  · unfold trRes at h; rw [if_pos hv, if_pos hr, e1, if_pos (by decide)] at h; cases h
  have em : m = i := id_inj hv hm hi ((of_decide_eq_true p1).trans e.symm)
  subst em
  have hmc : m ∈ comp (edge ps limit) ps.length m := mem_comp.2 (.refl hm)
  have hy : yr ps m = ps[m].year := by simp [yr, List.getD_eq_getElem?_getD, hm]
  have ht : trt ps m = ps[m].traits := by simp [trt, List.getD_eq_getElem?_getD, hm]
  have h0 : ¬ (m : Int) < 0 := by omega
  unfold ysRes trRes
  rw [if_pos hv, if_pos hr, if_pos hv, if_pos hr, e1, if_neg h0, if_neg h0, Int.toNat_natCast]
  simp only
  have y1 := yMin_mem ps _ 2100 m hmc
  have y2 := yMax_mem ps _ 1840 m hmc
  rw [hy] at y1 y2
  refine ⟨y1, y2, fun t htt => List.any_eq_true.2 ⟨t, ?_, by simp⟩⟩
  refine ((putAll_up _ .nil).2 t).2 (.inr ?_)
  unfold trAll
  exact List.mem_flatten.2 ⟨ps[m].traits, List.mem_map.2 ⟨m, hmc, ht⟩, htt⟩
/-- a sighting in its cells -/
theorem siC_dec {H : AHeap} {b : Nat} {k : ABlk} {p : Si} (h : eI.At H b 0 k p.traits) (ht : p.town.length ≤ 9223372036854775807) : ∀ H', SubE H H' → eSi.dec H' (siCells b p) = some p := fun H' hs => eSi.mono H H' _ _ hs (by
  have he := h.els
  have hl := h.len
  have hz : k.esz = 1 := h.esz
  simp only [Nat.zero_add, List.drop_zero] at he hl
  simp only [eSi, siCells]
  rw [if_pos ht]
  simp [rdI, h.blk, hz, hl, he])

end Go.Proofs.YtafenginfojcmaaGreatDoor
