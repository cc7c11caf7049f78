/- Arguments that are lists of sightings: each row of numbers stands as a read-only block, and the list as one more. No program is named here. -/
import Derived.Test.YtafenginfojcmaaNest
import Derived.Test.YtafenginfojcmaaLawA
set_option linter.unusedSimpArgs false
namespace Go.Proofs.Ytafenginfojcmaa
open Go Go.RowKit

theorem Sub.tr {H H' H'' : AHeap} (h : Sub H H') (h' : Sub H' H'') : Sub H H'' := ⟨⟨Nat.le_trans h.1.1 h'.1.1, fun b k hk => h'.1.2 b k (h.1.2 b k hk)⟩, h.2.trans h'.2⟩
theorem EncH.decL_of {α : Type} (E : EncH α) {H : AHeap} : ∀ {L : List (List AC)} {l : List α}, L.length = l.length → (∀ (j : Nat) (e : List AC) (p : α), L[j]? = some e → l[j]? = some p → E.dec H e = some p) → E.decL H L = some l
  | [], [], _, _ => rfl
  | e :: L, p :: l, hl, h => by
    have h0 := h 0 e p rfl rfl
    have hr := E.decL_of (L := L) (l := l) (by simpa using hl) fun j e' p' he hp => h (j + 1) e' p' (by simpa using he) (by simpa using hp)
    simp only [EncH.decL, h0, hr]
  | [], _ :: _, h, _ => by simp at h
  | _ :: _, [], h, _ => by simp at h
/-- from a row that stands to what a contract asks of it -/
theorem EncH.At.rd0 {α : Type} {E : EncH α} {H : AHeap} {b : Nat} {k : ABlk} {l : List α} {K : List α → Prop} (h : E.At H b 0 k l) (hK : K l) : E.rd H K (.c (.sl b 0 l.length)) := by
  have h1 := h.len
  have h2 := h.els
  simp only [EncH.rd_sl, h.blk, onv_some, h.esz, h2, hK, and_true, true_and]
  exact h1
theorem add_rows (INT : TypeId) {w : World} : ∀ (ts : List (Value × List Int × Place)), (∀ t ∈ ts, ArgS eI INT w t.1 t.2.1 t.2.2) → ∀ {φ : Nat → Place} {H : AHeap}, HRep φ ⟨w.heap.size, fun _ => False⟩ H w →
    ∃ φ' H', HRep φ' ⟨w.heap.size, fun _ => False⟩ H' w ∧ (∀ c, c < H.n → φ' c = φ c) ∧ Sub H H' ∧ H'.n = H.n + ts.length ∧ ∀ i t, ts[i]? = some t → H'.b (H.n + i) = some ⟨INT, 1, true, false, t.2.1.map eI.cells⟩ ∧ φ' (H.n + i) = t.2.2
  | [], _, φ, H, hH => ⟨φ, H, hH, fun _ _ => rfl, .refl H, rfl, fun i t h => by simp at h⟩
  | t :: r, ha, φ, H, hH => by
    have h1 := ha t (by simp)
    have hH1 := hH.addRo (p := t.2.2) (k := ⟨INT, 1, true, false, t.2.1.map eI.cells⟩) rfl (h1.cells _ _) h1.lt (by simpa using h1.mx)
    obtain ⟨φ', H', g1, g2, g3, g4, g5⟩ := add_rows INT r (fun t ht => ha t (by simp [ht])) hH1
    have hn : (H.push ⟨INT, 1, true, false, t.2.1.map eI.cells⟩).n = H.n + 1 := rfl
    rw [hn] at g2 g4 g5
    refine ⟨φ', H', g1, fun c hc => ?_, (Sub.push hH.wf (.refl _) _).tr g3, ?_, fun i u hu => ?_⟩
    · rw [g2 c (Nat.lt_succ_of_lt hc), updP_old c hc]
    · rw [g4, List.length_cons]; omega
    · cases i with
      | zero =>
        simp only [List.getElem?_cons_zero, Option.some.injEq] at hu
        subst hu
        exact ⟨g3.1.2 _ _ (by simp [AHeap.push]), by rw [Nat.add_zero, g2 _ (Nat.lt_succ_self _), updP_new]⟩
      | succ i =>
        have := g5 i u (by simpa using hu)
        rw [show H.n + (i + 1) = H.n + 1 + i by omega]
        exact this
def siRo (c : Nat) (s : Si) : List AC := [.int .i64 s.id, .int .i64 s.year, .str s.town, .sl c 0 s.traits.length]
theorem eSi_ro {H : AHeap} {INT : TypeId} {c : Nat} {p : Si} (hb : H.b c = some ⟨INT, 1, true, false, p.traits.map eI.cells⟩) (ht : p.town.length ≤ 9223372036854775807) : eSi.dec H (siRo c p) = some p := by
  simp only [eSi, siRo]
  rw [if_pos ht]
  simp [rdI, hb]
/-- a list of sightings that was handed in: every heap that stands for the world can be enlarged by it -/
structure ArgN (w : World) (v : Value) (ps : List Si) : Prop where
  add : ∀ {φ : Nat → Place} {H : AHeap}, HRep φ ⟨w.heap.size, fun _ => False⟩ H w → ∃ φ' H' b k, HRep φ' ⟨w.heap.size, fun _ => False⟩ H' w ∧ (∀ c, c < H.n → φ' c = φ c) ∧ Sub H H' ∧ RepC φ' H'.n (.sl b 0 ps.length) v ∧ eSi.At H' b 0 k ps
/-- one sighting of the list -/
structure SiAt (INT : TypeId) (w : World) (a : Addr) (i : Nat) (t : Si × Value × Place) : Prop where
  town : t.1.town.length ≤ 9223372036854775807
  row : ArgS eI INT w t.2.1 t.1.traits t.2.2
  c0 : w.cell? (a.add (i * 4)) = some (.int .i64 t.1.id)
  c1 : w.cell? (a.add (i * 4 + 1)) = some (.int .i64 t.1.year)
  c2 : w.cell? (a.add (i * 4 + 2)) = some (.string ⟨t.1.town.toArray⟩)
  c3 : w.cell? (a.add (i * 4 + 3)) = some t.2.1
theorem argN_of (T INT : TypeId) {w : World} {a : Addr} {len cap : Nat} (hl : len ≤ cap) (hm : cap ≤ maxLen)
    (hx : ∀ i, i < cap → ∃ t, SiAt INT w a i t) : ∃ ps, ArgN w (.slice (some a) len cap) ps := by
  have : ∀ m, m ≤ cap → ∃ ts : List (Si × Value × Place), ts.length = m ∧ ∀ i t, ts[i]? = some t → SiAt INT w a i t := by
    intro m
    induction m with
    | zero => exact fun _ => ⟨[], rfl, fun i p h => by simp at h⟩
    | succ m ih =>
      intro hm'
      obtain ⟨ps, h1, h2⟩ := ih (by omega)
      obtain ⟨p, hp⟩ := hx m (by omega)
      refine ⟨ps ++ [p], by simp [h1], fun i q hq => ?_⟩
      rcases Nat.lt_or_ge i m with hi | hi
      · rw [List.getElem?_append_left (by omega)] at hq
        exact h2 i q hq
      · have him : i = m := by
          have := (List.getElem?_eq_some_iff.1 hq).1
          simp at this; omega
        subst him
        rw [List.getElem?_append_right (by omega), h1] at hq
        simp at hq
        subst hq
        exact hp
  obtain ⟨ts, h1, h2⟩ := this len hl
  have hcell : 0 < cap → ∃ v, w.cell? a = some v := fun h0 => by
    obtain ⟨t, ht⟩ := hx 0 h0
    exact ⟨_, by simpa [Addr.add] using ht.c0⟩
  have hspot : 0 < cap → a.spot = none := fun h0 => by
    obtain ⟨v, hv⟩ := hcell h0
    exact World.cell?_spot hv
  have hadr : 0 < cap → ∀ i j, (⟨a.block, a.off, 4, cap⟩ : Place).adr i j = a.add (i * 4 + j) := fun h0 i j => by
    have := hspot h0
    cases a; simp only at this; subst this
    simp only [Place.adr, Addr.add]
    split
    · rename_i h; simp only [Addr.mk.injEq, and_true, true_and]; omega
    · simp only [Addr.mk.injEq, and_true, true_and]; omega
  refine ⟨ts.map (·.1), ⟨fun {φ H} hH => ?_⟩⟩
  obtain ⟨φ', H', g1, g2, g3, g4, g5⟩ := add_rows INT (ts.map fun t => (t.2.1, t.1.traits, t.2.2)) (fun u hu => by
    obtain ⟨t, ht, rfl⟩ := List.mem_map.1 hu
    obtain ⟨i, hi⟩ := List.getElem?_of_mem ht
    exact (h2 i t hi).row) hH
  have g5' : ∀ i t, ts[i]? = some t → H'.b (H.n + i) = some ⟨INT, 1, true, false, t.1.traits.map eI.cells⟩ ∧ φ' (H.n + i) = t.2.2 := fun i t ht => g5 i (t.2.1, t.1.traits, t.2.2) (by rw [List.getElem?_map, ht]; rfl)
  have hels : ∀ (i : Nat) (e : List AC), (ts.mapIdx fun i t => siRo (H.n + i) t.1)[i]? = some e → ∃ t, ts[i]? = some t ∧ e = siRo (H.n + i) t.1 := fun i e he => by
    rw [List.getElem?_mapIdx, Option.map_eq_some_iff] at he
    obtain ⟨t, ht, rfl⟩ := he
    exact ⟨t, ht, rfl⟩
  have hlt : ∀ i t, ts[i]? = some t → H.n + i < H'.n := fun i t ht => (g1.wf _ _ (g5' i t ht).1).1
  have hk : ABlk.els ⟨T, 4, true, false, ts.mapIdx fun i t => siRo (H.n + i) t.1⟩ = ts.mapIdx fun i t => siRo (H.n + i) t.1 := rfl
  have hH2 := g1.addRo (p := ⟨a.block, a.off, 4, cap⟩) (k := ⟨T, 4, true, false, ts.mapIdx fun i t => siRo (H.n + i) t.1⟩) rfl
    ⟨rfl, by simp [h1, hl], fun i e he => by obtain ⟨t, _, rfl⟩ := hels i e he; rfl, fun i e he j x hj => by
      obtain ⟨t, ht, rfl⟩ := hels i e he
      have hi : i < len := by rw [← h1]; exact (List.getElem?_eq_some_iff.1 ht).1
      have hs := h2 i t ht
      rw [hadr (by omega)]
      match j, hj with
      | 0, hj => cases hj; exact ⟨_, hs.c0, rfl⟩
      | 1, hj => cases hj; exact ⟨_, hs.c1, rfl⟩
      | 2, hj => cases hj; exact ⟨_, hs.c2, rfl⟩
      | 3, hj =>
        cases hj
        obtain ⟨b, hb1, hb2, hb3⟩ := hs.row.val
        refine ⟨_, hs.c3, hlt i t ht, b, t.2.2.cap, hb1, hb2, ?_, ?_⟩
        · rw [(g5' i t ht).2, Nat.zero_add]; exact Nat.le_refl _
        · rw [(g5' i t ht).2]; exact hb3
      | j + 4, hj => cases hj⟩ (fun h0 => by
      obtain ⟨v, hv⟩ := hcell h0
      exact World.block_lt_of_cell? w _ hv) (by rw [hk, List.length_mapIdx, h1]; simp only [maxLen] at hm; omega)
  refine ⟨_, _, H'.n, ⟨T, 4, true, false, ts.mapIdx fun i t => siRo (H.n + i) t.1⟩, hH2, fun c hc => ?_, g3.tr (Sub.push g1.wf (.refl _) _), ⟨Nat.lt_succ_self _, some a, cap, by simp [h1], by simpa [h1] using hl, ?_, fun h0 => ?_⟩, ⟨by simp [AHeap.push], rfl, by simp, ?_⟩⟩
  · rw [updP_old c (Nat.lt_of_lt_of_le hc g3.1.1)]; exact g2 c hc
  · rw [updP_new, Nat.zero_add]; exact Nat.le_refl _
  · rw [updP_new, hadr h0 0 0]; simp [Addr.add]
  · rw [List.drop_zero, List.take_of_length_le (by simp)]
    refine eSi.decL_of (by simp) fun j e p he hp => ?_
    obtain ⟨t, ht, rfl⟩ := hels j e he
    rw [List.getElem?_map, ht] at hp
    cases hp
    refine eSi_ro (INT := INT) ?_ (h2 j t ht).town
    exact (Sub.push g1.wf (.refl _) _).1.2 _ _ (g5' j t ht).1
theorem argN_nil (T : TypeId) (w : World) : ArgN w (.slice none 0 0) [] := ⟨fun {φ H} hH => by
  have h := argS_nil eI T w
  have hH1 := hH.addRo (p := ⟨0, 0, 4, 0⟩) (k := ⟨T, 4, true, false, []⟩) rfl ⟨rfl, by simp, fun i e he => by simp at he, fun i e he => by simp at he⟩ (fun h => absurd h (Nat.lt_irrefl 0)) (by simp)
  exact ⟨_, _, H.n, ⟨T, 4, true, false, []⟩, hH1, fun c hc => updP_old c hc, Sub.push hH.wf (.refl _) _, ⟨Nat.lt_succ_self _, none, 0, rfl, Nat.le_refl _, Nat.zero_le _, fun h => absurd h (Nat.lt_irrefl 0)⟩, ⟨by simp [AHeap.push], rfl, by simp, rfl⟩⟩⟩
theorem EncH.At.up {α : Type} {E : EncH α} {H H' : AHeap} {b i : Nat} {k : ABlk} {l : List α} (h : E.At H b i k l) (hs : Sub H H') : E.At H' b i k l := ⟨hs.1.2 _ _ h.blk, h.esz, h.len, E.decL_mono (SubE.of_sub hs) h.els⟩
theorem Enc.At.up {α : Type} {E : Enc α} {H H' : AHeap} {b i : Nat} {k : ABlk} {l : List α} (h : E.At H b i k l) (hs : Sub H H') : E.At H' b i k l := ⟨hs.1.2 _ _ h.blk, h.esz, h.len, h.els⟩
theorem Enc.At.rd0 {α : Type} {E : Enc α} {H : AHeap} {b : Nat} {k : ABlk} {l : List α} {K : List α → Prop} (h : E.At H b 0 k l) (hK : K l) : E.rd H K (.c (.sl b 0 l.length)) := by
  have h1 := h.len
  have h2 := h.els
  simp only [Enc.rd_sl, h.blk, onv_some, h.esz, h2, Enc.decL_map, hK, and_true, true_and]
  exact h1
theorem ArgS.add {α : Type} {E : Enc α} {ty : TypeId} {w : World} {v : Value} {ps : List α} {p : Place} (h : ArgS E ty w v ps p) {φ : Nat → Place} {H : AHeap} (hH : HRep φ ⟨w.heap.size, fun _ => False⟩ H w) :
    ∃ φ' H' b k, HRep φ' ⟨w.heap.size, fun _ => False⟩ H' w ∧ (∀ c, c < H.n → φ' c = φ c) ∧ Sub H H' ∧ RepC φ' H'.n (.sl b 0 ps.length) v ∧ E.At H' b 0 k ps := by
  have hH1 := hH.addRo (p := p) (k := ⟨ty, E.n, true, false, ps.map E.cells⟩) rfl (h.cells _ _) h.lt (by simpa using h.mx)
  obtain ⟨a, hv, hl, ha⟩ := h.val
  exact ⟨_, _, H.n, ⟨ty, E.n, true, false, ps.map E.cells⟩, hH1, fun c hc => updP_old c hc, Sub.push hH.wf (.refl _) _, ⟨Nat.lt_succ_self _, a, p.cap, hv, hl, by rw [updP_new, Nat.zero_add]; exact Nat.le_refl _, by rw [updP_new]; exact ha⟩, ⟨by simp [AHeap.push], rfl, by simp, by simp [List.take_of_length_le]⟩⟩
end Go.Proofs.Ytafenginfojcmaa
