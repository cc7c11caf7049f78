/- Records that hold slices: encodings that look into the heap. No program is named here. -/
import Derived.Test.YtafenginfojcmaaGreatDoorBas
set_option maxRecDepth 8000
set_option linter.unusedSimpArgs false
namespace Go.Proofs.YtafenginfojcmaaGreatDoor
open Go Go.RowKit

/-- H' holds the same elements in each block of H -/
structure SubE (H H' : AHeap) : Prop where
  ex : ∀ b k, H.b b = some k → ∃ k', H'.b b = some k' ∧ k'.esz = k.esz ∧ k'.els = k.els
theorem SubE.refl (H : AHeap) : SubE H H := ⟨fun _ k h => ⟨k, h, rfl, rfl⟩⟩
theorem SubE.push {H H' : AHeap} (hwf : H.WF) (hn : H.n ≤ H'.n) (h : SubE H H') (k : ABlk) : SubE H (H'.push k) := ⟨fun b k0 hk => by
  obtain ⟨k', h1, h2⟩ := h.ex b k0 hk
  exact ⟨k', by rw [push_b, if_neg (by have := (hwf b k0 hk).1; omega)]; exact h1, h2⟩⟩
theorem SubE.set {H H' : AHeap} (hwf : H.WF) {i : Nat} (hn : H.n ≤ i) (h : SubE H H') (k : ABlk) : SubE H (H'.set i k) := ⟨fun b k0 hk => by
  obtain ⟨k', h1, h2⟩ := h.ex b k0 hk
  exact ⟨k', by rw [set_b, if_neg (by have := (hwf b k0 hk).1; omega)]; exact h1, h2⟩⟩
theorem SubE.kill {H H' : AHeap} (hwf : H.WF) {i : Nat} (hn : H.n ≤ i) (h : SubE H H') : SubE H (H'.kill i) := ⟨fun b k0 hk => by
  obtain ⟨k', h1, h2⟩ := h.ex b k0 hk
  exact ⟨k', by rw [kill_b, if_neg (by have := (hwf b k0 hk).1; omega)]; exact h1, h2⟩⟩
theorem SubE.toRo {H H' : AHeap} (h : SubE H H') : SubE H H'.toRo := ⟨fun b k0 hk => by
  obtain ⟨k', h1, h2⟩ := h.ex b k0 hk
  exact ⟨k'.toRo, by rw [toRo_b, h1]; rfl, h2⟩⟩
theorem SubE.of_sub {H H' : AHeap} (h : Sub H H') : SubE H H' := ⟨fun b k hk => ⟨k, h.1.2 b k hk, rfl, rfl⟩⟩
theorem hs_of {H : AHeap} (hwf : H.WF) : SubE H H ∧ (∀ H' k, H.n ≤ H'.n → SubE H H' → SubE H (H'.push k)) ∧ (∀ H', SubE H H' → SubE H H'.toRo) ∧ (∀ H' i k, H.n ≤ i → SubE H H' → SubE H (H'.set i k)) ∧ (∀ H' i, H.n ≤ i → SubE H H' → SubE H (H'.kill i)) := ⟨SubE.refl H, fun _ k hn hs => SubE.push hwf hn hs k, fun _ hs => hs.toRo, fun _ _ k hn hs => SubE.set hwf hn hs k, fun _ _ hn hs => SubE.kill hwf hn hs⟩

/-- how a Lean type stands in cells and in the blocks that they name -/
structure EncH (α : Type) where
  n : Nat
  dec : AHeap → List AC → Option α
  mono : ∀ H H' e a, SubE H H' → dec H e = some a → dec H' e = some a
def EncH.decL {α : Type} (E : EncH α) (H : AHeap) : List (List AC) → Option (List α)
  | [] => some []
  | e :: r => match E.dec H e, E.decL H r with
    | some a, some l => some (a :: l)
    | _, _ => none
theorem EncH.decL_mono {α : Type} (E : EncH α) {H H' : AHeap} (hs : SubE H H') : ∀ {L : List (List AC)} {l : List α}, E.decL H L = some l → E.decL H' L = some l
  | [], _, h => h
  | e :: r, l, h => by
    simp only [decL] at h
    split at h
    · rename_i a t h1 h2
      cases h
      simp only [decL, E.mono H H' e a hs h1, E.decL_mono hs h2]
    · cases h
theorem EncH.decL_get {α : Type} (E : EncH α) {H : AHeap} : ∀ {L : List (List AC)} {l : List α}, E.decL H L = some l → L.length = l.length ∧ ∀ j (h : j < l.length), ∃ e, L[j]? = some e ∧ E.dec H e = some l[j]
  | [], l, h => by simp [decL] at h; subst h; exact ⟨rfl, fun j h => absurd h (Nat.not_lt_zero j)⟩
  | e :: r, l, h => by
    simp only [decL] at h
    split at h
    · rename_i a t h1 h2
      cases h
      obtain ⟨g1, g2⟩ := E.decL_get h2
      refine ⟨by simp [g1], fun j hj => ?_⟩
      cases j with
      | zero => exact ⟨e, rfl, h1⟩
      | succ j =>
        obtain ⟨e', k1, k2⟩ := g2 j (by simpa using hj)
        exact ⟨e', by simpa using k1, by simpa using k2⟩
    · cases h
/-- a slice's elements -/
def EncH.rd {α : Type} (E : EncH α) (H : AHeap) (K : List α → Prop) : AV → Prop
  | .c (.sl b i n) => onv (H.b b) fun k => k.esz = E.n ∧ i + n ≤ k.els.length ∧ onv (E.decL H ((k.els.drop i).take n)) K
  | _ => False
@[simp ↓] theorem EncH.rd_sl {α : Type} (E : EncH α) (H : AHeap) (K : List α → Prop) (b i n : Nat) : E.rd H K (.c (.sl b i n)) = onv (H.b b) fun k => k.esz = E.n ∧ i + n ≤ k.els.length ∧ onv (E.decL H ((k.els.drop i).take n)) K := rfl
@[congr] theorem EncH.rd_congr {α : Type} {E : EncH α} {H : AHeap} {K : List α → Prop} {v v' : AV} (h : v = v') : E.rd H K v = E.rd H K v' := by rw [h]
structure EncH.At {α : Type} (E : EncH α) (H : AHeap) (b i : Nat) (k : ABlk) (l : List α) : Prop where
  blk : H.b b = some k
  esz : k.esz = E.n
  len : i + l.length ≤ k.els.length
  els : E.decL H ((k.els.drop i).take l.length) = some l
theorem EncH.At.get {α : Type} {E : EncH α} {H : AHeap} {b i : Nat} {k : ABlk} {l : List α} (h : E.At H b i k l) {j : Nat} (hj : j < l.length) : ∃ e, k.els[i + j]? = some e ∧ E.dec H e = some l[j] := by
  obtain ⟨e, h1, h2⟩ := (E.decL_get h.els).2 j hj
  rw [List.getElem?_take_of_lt hj, List.getElem?_drop] at h1
  exact ⟨e, h1, h2⟩
/-- also in a greater heap -/
theorem EncH.At.on {α : Type} {E : EncH α} {H : AHeap} {b i : Nat} {k : ABlk} {l : List α} (h : E.At H b i k l) : ∀ H', SubE H H' → E.decL H' ((k.els.drop i).take l.length) = some l := fun _ hs => E.decL_mono hs h.els
theorem EncH.rd_at {α : Type} {E : EncH α} {H : AHeap} {K : List α → Prop} {x : AV} (h : E.rd H K x) : ∃ b i k l, x = .c (.sl b i l.length) ∧ E.At H b i k l ∧ K l := by
  cases x with
  | c y =>
    cases y with
    | sl b i n =>
      simp only [EncH.rd] at h
      obtain ⟨k, hk, h1, h2, h3⟩ := onv_iff.1 h
      obtain ⟨l, hl, h4⟩ := onv_iff.1 h3
      have h6 : n = l.length := by
        have := (E.decL_get hl).1
        simp at this
        omega
      subst h6
      exact ⟨b, i, k, l, rfl, ⟨hk, h1, h2, hl⟩, h4⟩
    | _ => exact h.elim
  | _ => exact h.elim

/-- numbers that a cell names -/
def rdI (H : AHeap) : AC → Option (List Int)
  | .sl b i n => (H.b b).bind fun k => if k.esz = 1 ∧ i + n ≤ k.els.length then eI.decL ((k.els.drop i).take n) else none
  | _ => none
theorem rdI_mono {H H' : AHeap} (hs : SubE H H') {x : AC} {l : List Int} (h : rdI H x = some l) : rdI H' x = some l := by
  cases x with
  | sl b i n =>
    simp only [rdI, Option.bind_eq_some_iff] at h ⊢
    obtain ⟨k, h1, h2⟩ := h
    obtain ⟨k', h3, h4, h5⟩ := hs.ex b k h1
    exact ⟨k', h3, by rw [h4, h5]; exact h2⟩
  | _ => cases h
theorem rdI_at {H : AHeap} {x : AC} {l : List Int} (h : rdI H x = some l) : ∃ b i k, x = .sl b i l.length ∧ eI.At H b i k l := by
  cases x with
  | sl b i n =>
    simp only [rdI, Option.bind_eq_some_iff] at h
    obtain ⟨k, h1, h2⟩ := h
    split at h2
    · rename_i hc
      have h5 := Enc.decL_eq eI h2
      have h6 : n = l.length := by
        have := congrArg List.length h5
        simp at this
        have := hc.2
        omega
      subst h6
      exact ⟨b, i, k, rfl, h1, hc.1, hc.2, h5⟩
    · cases h2
  | _ => cases h
@[simp ↓] theorem onv_rdI (H : AHeap) (b i n : Nat) (K : List Int → Prop) : onv (rdI H (.sl b i n)) K = onv (H.b b) fun k => k.esz = 1 ∧ i + n ≤ k.els.length ∧ onv (eI.decL ((k.els.drop i).take n)) K := by
  simp only [rdI]
  cases H.b b with
  | none => rfl
  | some k =>
    simp only [Option.bind_some, onv_some]
    split
    · rename_i h; simp [h]
    · rename_i h
      exact (eq_false fun hc => h ⟨hc.1, hc.2.1⟩).symm
/-- rows of numbers in a row -/
def eII : EncH (List Int) where
  n := 1
  dec H e := match e with
    | [x] => rdI H x
    | _ => none
  mono H H' e a hs h := by
    split at h
    · exact rdI_mono hs h
    · cases h
/-- a sighting -/
structure Si where
  id : Int
  year : Int
  town : List UInt8
  traits : List Int
  deriving DecidableEq, Inhabited
def eSi : EncH Si where
  n := 4
  dec H e := match e with
    | [.int .i64 a, .int .i64 b, .str t, x] => if t.length ≤ 9223372036854775807 then (rdI H x).map fun l => ⟨a, b, t, l⟩ else none
    | _ => none
  mono H H' e a hs h := by
    split at h
    · split at h
      · rename_i hl
        simp only [Option.map_eq_some_iff] at h ⊢
        rw [if_pos hl]
        obtain ⟨l, h1, h2⟩ := h
        exact Option.map_eq_some_iff.2 ⟨l, rdI_mono hs h1, h2⟩
      · cases h
    · cases h
@[simp] theorem eSi_n : eSi.n = 4 := (rfl)
@[simp] theorem eII_n : eII.n = 1 := (rfl)
@[simp ↓] theorem onv_eSi (H : AHeap) (a b : Int) (t : List UInt8) (x : AC) (K : Si → Prop) : onv (eSi.dec H [.int .i64 a, .int .i64 b, .str t, x]) K = (t.length ≤ 9223372036854775807 ∧ onv (rdI H x) fun l => K ⟨a, b, t, l⟩) := by
  show onv (if t.length ≤ 9223372036854775807 then (rdI H x).map _ else none) K = _
  split
  · rename_i h; cases rdI H x <;> simp [h, onv]
  · rename_i h; exact (eq_false fun hc => h hc.1).symm
theorem eSi_at {H : AHeap} {e : List AC} {s : Si} (h : eSi.dec H e = some s) : ∃ b i k, e = [.int .i64 s.id, .int .i64 s.year, .str s.town, .sl b i s.traits.length] ∧ eI.At H b i k s.traits ∧ s.town.length ≤ 9223372036854775807 := by
  simp only [eSi] at h
  split at h
  · split at h
    · rename_i hl
      simp only [Option.map_eq_some_iff] at h
      obtain ⟨l, h1, rfl⟩ := h
      obtain ⟨b, i, k, rfl, h2⟩ := rdI_at h1
      exact ⟨b, i, k, rfl, h2, hl⟩
    · cases h
  · cases h
end Go.Proofs.YtafenginfojcmaaGreatDoor
