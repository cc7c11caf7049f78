/- A row put in order, by the kit's shelf. -/
import Derived.Test.YtafenginfojcmaaBas
import Derived.Test.YtafenginfojcmaaSiC
import Derived.Test.YtafenginfojcmaaShelf
set_option maxRecDepth 8000
set_option linter.unusedSimpArgs false
set_option linter.unusedVariables false
namespace Go.Proofs.Ytafenginfojcmaa
open Go Go.RowKit

set_option maxHeartbeats 1000000
/-- a row's numbers in order -/
def sortI (zs : List Int) : List Int := zs.mergeSort fun x y => decide (x ≤ y)
theorem sortI_len (zs : List Int) : (sortI zs).length = zs.length := List.length_mergeSort zs
def q_sort : Con := fun args H K => match args with
  | [.c (.sl b i n)] => onv (H.b b) fun kb => i = 0 ∧ 0 < n ∧ n ≤ 1000000 ∧ kb.ro = false ∧ kb.esz = 1 ∧ kb.els.length = n ∧ onv (eI.decL kb.els) fun zs => K (.tup []) (H.set b (reK kb ((sortI zs).map eI.cells)))
  | _ => False
@[simp ↓] theorem q_sort_eq (b i n : Nat) (H : AHeap) (K : AV → AHeap → Prop) : q_sort [.c (.sl b i n)] H K = onv (H.b b) fun kb => i = 0 ∧ 0 < n ∧ n ≤ 1000000 ∧ kb.ro = false ∧ kb.esz = 1 ∧ kb.els.length = n ∧ onv (eI.decL kb.els) fun zs => K (.tup []) (H.set b (reK kb ((sortI zs).map eI.cells))) := rfl
theorem slices_Sort___int_int_s : Sound Try.prog 63 q_sort := by
  intro args H K h
  unfold q_sort at h
  split at h
  rotate_left
  all_goals first | exact False.elim h | skip
  rename_i b i n
  have h1 := onv_iff.1 h
  clear h
  obtain ⟨kb, hk, rfl, hn, hn2, hro, hesz, hlen, h⟩ := h1
  have h1 := onv_iff.1 h
  clear h
  obtain ⟨zs, hz, h⟩ := h1
  have he := Enc.decL_eq eI hz
  have hzl : zs.length = n := by rw [← hlen, he, List.length_map]
  refine ⟨fun args w => enters_of Try.func63 (by kernel_rfl) rfl args w, fun φ B w vs hH hr => ?_⟩
  obtain ⟨v, rfl⟩ : ∃ v, vs = [v] := by
    match vs, hr with
    | [v], _ => exact ⟨v, rfl⟩
    | [], hr => exact hr.elim
    | _ :: _ :: _, hr => exact hr.2.elim
  obtain ⟨hb, a, cap, rfl, hcap, hcap2, ha⟩ := hr.1
  obtain rfl := ha (by omega)
  have hphi : 0 < (φ b).cap := by omega
  have hown := hH.own b kb hk hro hphi
  have hc := hH.cells b kb hk
  obtain ⟨cs, fz, hrow, hsz, hfz, hfr⟩ := hown.row
  have hesz' : (φ b).esz = 1 := hc.esz.trans hesz
  have hcc := hc.cap
  rw [hesz', Nat.mul_one] at hsz
  have hadr : ∀ j, (φ b).adr j 0 = ⟨(φ b).blk, 0 + j, none⟩ := fun j => by simp [Place.adr, hown.off, hesz']
  have hcell : ∀ j (hj : j < zs.length), w.cell? ⟨(φ b).blk, 0 + j, none⟩ = some (.int .i64 zs[j]) := fun j hj => by
    obtain ⟨v, h1, h2⟩ := hc.cell j (eI.cells zs[j]) (by rw [he, List.getElem?_map, List.getElem?_eq_getElem hj]; rfl) 0 (.int .i64 zs[j]) rfl
    rw [hadr] at h1
    rw [h1, show v = .int .i64 zs[j] from h2]
  have hHo : Go.Sort.Holds (Value.int .i64) w (φ b).blk 0 zs.toArray := fun j hj => by
    have hj' : j < zs.length := by simpa using hj
    refine ⟨by rw [hcell j hj']; simp [hj'], ?_⟩
    have := hfr j (by omega)
    simp only [World.frozen?, hrow, Nat.zero_add]
    simpa using this
  have hblk : (φ b).blk < w.heap.size := (Array.getElem?_eq_some_iff.1 hrow).1
  rw [hadr 0]
  have main := Try.slices_Sort_int (φ b).blk 0 cap zs w hHo hblk (by omega)
  rw [hzl] at main
  refine main.mono ?_
  rintro e w' ⟨rfl, m, os, rfl⟩
  have hyl := sortI_len zs
  unfold sortI at hyl h
  generalize hys : (zs.mergeSort fun x y => decide (x ≤ y)) = ys at hyl h
  have hoth : ∀ c, c ≠ (φ b).blk → (Go.Sort.putRow (Value.int .i64) (Go.Sort.ahead w m) (φ b).blk 0 ys.toArray).heap[c]? = w.heap[c]? := fun c hc' => by
    simp [Go.Sort.putRow, Go.Sort.mapBlock, Go.Sort.ahead, Array.getElem?_modify, Ne.symm hc']
  have hrow1 : (Go.Sort.putRow (Value.int .i64) (Go.Sort.ahead w m) (φ b).blk 0 ys.toArray).heap[(φ b).blk]? = some (.cells (Go.Sort.putCells (Value.int .i64) 0 ys.toArray cs) kb.ty fz) := by
    simp [Go.Sort.putRow, Go.Sort.mapBlock, Go.Sort.ahead, Array.getElem?_modify, hrow, Go.Sort.onCells]
  have hsz1 : (Go.Sort.putRow (Value.int .i64) (Go.Sort.ahead w m) (φ b).blk 0 ys.toArray).heap.size = w.heap.size := by simp [Go.Sort.ahead]
  have hbl : Kept B w (Go.Sort.putRow (Value.int .i64) (Go.Sort.ahead w m) (φ b).blk 0 ys.toArray) :=
    ⟨⟨rfl, rfl, rfl, by rw [hsz1]; exact Nat.le_refl _, fun k hk' => hoth k (by have := hown.base; omega)⟩, fun c hc' => hoth c fun e => hown.out (e ▸ hc')⟩
  have hc' : BCells φ H.n (φ b) (reK kb (ys.map eI.cells)) (Go.Sort.putRow (Value.int .i64) (Go.Sort.ahead w m) (φ b).blk 0 ys.toArray) := by
    refine ⟨hc.esz, by simp only [reK_els, List.length_map]; omega, fun i e hi => ?_, fun i e hi j x hx => ?_⟩
    · simp only [reK_els, List.getElem?_map, Option.map_eq_some_iff] at hi
      obtain ⟨y, _, rfl⟩ := hi
      rw [reK_esz, hesz]; rfl
    · simp only [reK_els, List.getElem?_map, Option.map_eq_some_iff] at hi
      obtain ⟨y, hy, rfl⟩ := hi
      obtain ⟨hiy, rfl⟩ := List.getElem?_eq_some_iff.1 hy
      match j, hx with
      | 0, hx =>
        cases hx
        refine ⟨.int .i64 ys[i], ?_, rfl⟩
        rw [hadr, Go.Sort.cell?_putRow (Value.int .i64) (Go.Sort.ahead w m) (φ b).blk 0 zs.toArray ys.toArray hHo (by simp [hyl]) i (by simpa using hiy)]
        simp [hiy]
      | j + 1, hx => cases hx
  have hH1 := hH.stored (k' := reK kb (ys.map eI.cells)) hk hro hphi rfl rfl hro hsz1 hoth hrow1 ⟨cs, hrow, by simp [Go.Sort.putCells]⟩ hbl hc'
  have hb2 : Below (Go.Sort.putRow (Value.int .i64) (Go.Sort.ahead w m) (φ b).blk 0 ys.toArray).heap.size (Go.Sort.putRow (Value.int .i64) (Go.Sort.ahead w m) (φ b).blk 0 ys.toArray) (Go.Sort.grow (Go.Sort.putRow (Value.int .i64) (Go.Sort.ahead w m) (φ b).blk 0 ys.toArray) os) :=
    ⟨rfl, rfl, rfl, by simp [Go.Sort.grow], fun i hi => by simp only [Go.Sort.grow]; rw [Array.getElem?_append_left hi]⟩
  exact ⟨.tup [], _, φ, _, rfl, ⟨[], rfl, trivial⟩, hH1.keep hb2, hbl.trans (.of_below hH1.size hH1.tlt hb2), Nat.le_refl _, fun _ _ => rfl, h⟩

end Go.Proofs.Ytafenginfojcmaa
