/- The laws' helpers: numbers. The laws' helpers: sightings. Evidence of two sightings of a list; the strongest pair. The strongest pair. A number put to its place. The group of a sighting, by the reference. -/
import Derived.Test.YtafenginfojcmaaGreatDoorBas
import Derived.Test.YtafenginfojcmaaGreatDoorSiC
import Derived.Test.YtafenginfojcmaaGreatDoorNest
import Derived.Test.YtafenginfojcmaaGreatDoorSiU
import Derived.Test.YtafenginfojcmaaGreatDoorComp
set_option maxRecDepth 8000
set_option linter.unusedSimpArgs false
set_option linter.unusedVariables false
namespace Go.Proofs.YtafenginfojcmaaGreatDoor
open Go Go.RowKit

def q_toSInt : Con := fun args H K => match args with
  | [ps_v] => eI.rd H (fun ps => ps.length ≤ 1048576 ∧ K (.c (.sl (H.n) (0) (ps.length))) (H.push (rowK eI 3 ps))) ps_v
  | _ => False
@[simp ↓] theorem q_toSInt_eq (ps_v : AV) (H : AHeap) (K : AV → AHeap → Prop) : q_toSInt [ps_v] H K = (eI.rd H (fun ps => ps.length ≤ 1048576 ∧ K (.c (.sl (H.n) (0) (ps.length))) (H.push (rowK eI 3 ps))) ps_v) := rfl

def q_eqSInt : Con := fun args H K => match args with
  | [ps_v, rs_v] => eI.rd H (fun ps => eI.rd H (fun rs => K (.c (.bool (decide (ps = rs)))) H) rs_v) ps_v
  | _ => False
@[simp ↓] theorem q_eqSInt_eq (ps_v : AV) (rs_v : AV) (H : AHeap) (K : AV → AHeap → Prop) : q_eqSInt [ps_v, rs_v] H K = (eI.rd H (fun ps => eI.rd H (fun rs => K (.c (.bool (decide (ps = rs)))) H) rs_v) ps_v) := rfl

def mkInt (k : Int) : Int := k
def mksInt : Nat → Int → List Int
  | 0, _ => []
  | n + 1, k => mkInt k :: mksInt n (k + 1)
@[simp] theorem mksInt_len : ∀ (n : Nat) (k : Int), (mksInt n k).length = n
  | 0, _ => rfl
  | n + 1, k => by simp [mksInt, mksInt_len n]
theorem mksInt_get : ∀ (n : Nat) (k : Int) (j : Nat), j < n → (mksInt n k)[j]? = some (mkInt (k + (j : Int)))
  | 0, _, _, h => by omega
  | n + 1, k, 0, _ => by simp [mksInt]
  | n + 1, k, j + 1, h => by
    simp only [mksInt, List.getElem?_cons_succ]
    rw [mksInt_get n _ j (by omega)]
    congr 2
    push_cast
    omega
def heldInt : List Int → Int → Int
  | [], k => k
  | p :: r, k => if p = k then heldInt r (k + 1) else -1
@[simp] theorem mksInt_take {β : Type} (n : Nat) (k : Int) (f : Int → β) : ((mksInt n k).map f).take n = (mksInt n k).map f := by
  rw [List.take_of_length_le]; simp
@[simp] theorem heldInt_mks : ∀ (n : Nat) (k : Int), heldInt (mksInt n k) k = k + (n : Int)
  | 0, k => by simp [mksInt, heldInt]
  | n + 1, k => by
    simp only [mksInt, heldInt, mkInt, if_true]
    rw [heldInt_mks n]
    push_cast
    omega
@[simp] theorem posInt (n : Nat) : (1 + (n : Int) < 0) = False := eq_false (by omega)

def q_heldSInt : Con := fun args H K => match args with
  | [ps_v, .c (.int .i64 k)] => eI.rd H (fun ps => ps.length ≤ 1048576 ∧ 0 ≤ k ∧ k ≤ 1099511627776 ∧ K (.c (.int .i64 (heldInt ps k))) H) ps_v
  | _ => False
@[simp ↓] theorem q_heldSInt_eq (ps_v : AV) (k : Int) (H : AHeap) (K : AV → AHeap → Prop) : q_heldSInt [ps_v, .c (.int .i64 k)] H K = (eI.rd H (fun ps => ps.length ≤ 1048576 ∧ 0 ≤ k ∧ k ≤ 1099511627776 ∧ K (.c (.int .i64 (heldInt ps k))) H) ps_v) := rfl

def q_markSInt : Con := fun args H K => match args with
  | [.c (.sl b i n), .c (.int .i64 k)] => onv (H.b b) fun kb => i = 0 ∧ kb.ro = false ∧ kb.esz = eI.n ∧ kb.els.length = n ∧ n ≤ 1048576 ∧ 0 ≤ k ∧ k ≤ 1099511627776 ∧ onv (eI.decL kb.els) fun _ => K (.c (.int .i64 (k + (n : Int)))) (H.set b (reK kb ((mksInt n k).map eI.cells)))
  | _ => False
@[simp ↓] theorem q_markSInt_eq (b i n : Nat) (k : Int) (H : AHeap) (K : AV → AHeap → Prop) : q_markSInt [.c (.sl b i n), .c (.int .i64 k)] H K = onv (H.b b) fun kb => i = 0 ∧ kb.ro = false ∧ kb.esz = eI.n ∧ kb.els.length = n ∧ n ≤ 1048576 ∧ 0 ≤ k ∧ k ≤ 1099511627776 ∧ onv (eI.decL kb.els) fun _ => K (.c (.int .i64 (k + (n : Int)))) (H.set b (reK kb ((mksInt n k).map eI.cells))) := rfl

end Go.Proofs.YtafenginfojcmaaGreatDoor
set_option maxRecDepth 8000
set_option linter.unusedSimpArgs false
set_option linter.unusedVariables false
namespace Go.Proofs.YtafenginfojcmaaGreatDoor
open Go Go.RowKit

set_option maxHeartbeats 2000000
theorem Stop.go {X : Prop} {u : UnitOf X} (h : Stop X u) : X := h

/-- a sighting's cells, its numbers in block c -/
def siCells (c : Nat) (s : Si) : List AC := [.int .i64 s.id, .int .i64 s.year, .str s.town, .sl c 0 s.traits.length]
/-- a new list of sightings: all that it names is new, and each row but once -/
structure NewSi (lo : Nat) (H' : AHeap) (b : Nat) (ps : List Si) : Prop where
  ge : lo ≤ b
  tx : ∀ p ∈ ps, p.town.length ≤ 9223372036854775807
  ex : ∃ cs : List Nat, cs.length = ps.length ∧ cs.Nodup ∧ (∀ c ∈ cs, lo ≤ c ∧ c ≠ b) ∧ H'.b b = some ⟨32, 4, false, false, List.zipWith siCells cs ps⟩ ∧ ∀ (j c : Nat) (p : Si), cs[j]? = some c → ps[j]? = some p → H'.b c = some (rowK eI 3 p.traits)

def q_toSi : Con := fun args H K => match args with
  | [.agg p_e] => onv (eSi.dec H p_e) fun p => p.traits.length ≤ 1048576 ∧ K (.agg (siCells H.n p)) (H.push (rowK eI 3 p.traits))
  | _ => False
@[simp ↓] theorem q_toSi_eq (p_e : List AC) (H : AHeap) (K : AV → AHeap → Prop) : q_toSi [.agg p_e] H K = (onv (eSi.dec H p_e) fun p => p.traits.length ≤ 1048576 ∧ K (.agg (siCells H.n p)) (H.push (rowK eI 3 p.traits))) := rfl

@[simp] theorem si_eta (p : Si) : (⟨p.id, p.year, p.town, p.traits⟩ : Si) = p := (rfl)
def siZero : List AC := [.int .i64 0, .int .i64 0, .str [], .nils]
def siRow (n : Nat) (ps : List Si) (j : Nat) : List (List AC) := ps.mapIdx fun i p => if i < j then siCells (n + 1 + i) p else siZero
/-- the list as far as it has come -/
def siHeap (H : AHeap) (ps : List Si) (j : Nat) : AHeap := ⟨H.n + 1 + j, fun i => if i < H.n then H.b i else if i = H.n then some ⟨32, 4, false, false, siRow H.n ps j⟩ else if i < H.n + 1 + j then (ps[i - (H.n + 1)]?).map fun p => rowK eI 3 p.traits else none, H.I⟩
@[simp] theorem siHeap_n (H : AHeap) (ps : List Si) (j : Nat) : (siHeap H ps j).n = H.n + 1 + j := rfl
theorem siHeap_old {H : AHeap} (ps : List Si) (j : Nat) {b : Nat} (h : b < H.n) : (siHeap H ps j).b b = H.b b := by simp [siHeap, h]
@[simp] theorem siHeap_row (H : AHeap) (ps : List Si) (j : Nat) : (siHeap H ps j).b H.n = some ⟨32, 4, false, false, siRow H.n ps j⟩ := by simp [siHeap]
theorem siHeap_sub {H : AHeap} (hwf : H.WF) (ps : List Si) (j : Nat) : Sub H (siHeap H ps j) := ⟨⟨by simp; omega, fun b k hk => by rw [siHeap_old ps j (hwf b k hk).1]; exact hk⟩, rfl⟩
@[simp] theorem siRow_len (n : Nat) (ps : List Si) (j : Nat) : (siRow n ps j).length = ps.length := by simp [siRow]
theorem siRow_get (n : Nat) {ps : List Si} {j : Nat} (h : j < ps.length) : (siRow n ps j)[j]? = some siZero := by simp [siRow, h]
theorem siRow_set (n : Nat) {ps : List Si} {j : Nat} (h : j < ps.length) : (siRow n ps j).set j (siCells (n + 1 + j) ps[j]) = siRow n ps (j + 1) := by
  apply List.ext_getElem?
  intro i
  simp only [siRow, List.getElem?_set, List.getElem?_mapIdx, List.length_mapIdx]
  by_cases hij : j = i
  · subst hij; simp [h]
  · simp only [hij, if_false]
    cases hp : ps[i]? with
    | none => rfl
    | some p =>
      simp only [Option.map_some]
      have e : (i < j) = (i < j + 1) := propext ⟨fun h => by omega, fun h => by omega⟩
      simp only [e]
theorem siHeap_step (H : AHeap) {ps : List Si} {j : Nat} (h : j < ps.length) : ((siHeap H ps j).push (rowK eI 3 ps[j].traits)).set H.n ⟨32, 4, false, false, siRow H.n ps (j + 1)⟩ = siHeap H ps (j + 1) := by
  simp only [AHeap.push, AHeap.set, siHeap, AHeap.mk.injEq, and_true]
  refine ⟨by omega, ?_⟩
  funext i
  by_cases h1 : i = H.n
  · simp [h1]
  · simp only [h1, if_false]
    by_cases h2 : i = H.n + 1 + j
    · subst h2
      simp [h, show ¬ H.n + 1 + j < H.n by omega]
    · simp only [h2, if_false]
      by_cases h3 : i < H.n
      · simp [h3]
      · simp only [h3, if_false]
        by_cases h4 : i < H.n + 1 + j
        · simp [h4, show i < H.n + 1 + (j + 1) by omega]
        · simp [h4, show ¬ i < H.n + 1 + (j + 1) by omega]
theorem si_tx {H : AHeap} {b i : Nat} {k : ABlk} {ps : List Si} (h : eSi.At H b i k ps) : ∀ p ∈ ps, p.town.length ≤ 9223372036854775807 := fun p hp => by
  obtain ⟨j, hj, rfl⟩ := List.getElem_of_mem hp
  obtain ⟨e, h1, h2⟩ := h.get hj
  obtain ⟨_, _, _, _, _, h3⟩ := eSi_at h2
  exact h3
theorem siHeap_new (H : AHeap) (ps : List Si) (htx : ∀ p ∈ ps, p.town.length ≤ 9223372036854775807) : NewSi H.n (siHeap H ps ps.length) H.n ps := by
  refine ⟨Nat.le_refl _, htx, List.range' (H.n + 1) ps.length, by simp, List.nodup_range', fun c hc => ?_, ?_, fun j c p hc hp => ?_⟩
  · rw [List.mem_range'_1] at hc; omega
  · rw [siHeap_row]
    congr 2
    apply List.ext_getElem?
    intro i
    simp only [siRow, List.getElem?_mapIdx, List.getElem?_zipWith]
    cases hp : ps[i]? with
    | none => simp
    | some p =>
      have hi : i < ps.length := (List.getElem?_eq_some_iff.1 hp).1
      simp [hi]
  · have hj : j < ps.length := (List.getElem?_eq_some_iff.1 hp).1
    simp [hj] at hc
    subst hc
    show (if _ then _ else _) = _
    rw [if_neg (by omega), if_neg (by omega), if_pos (by omega), show H.n + 1 + j - (H.n + 1) = j by omega, hp]
    rfl

def q_toSiS : Con := fun args H K => match args with
  | [ps_v] => eSi.rd H (fun ps => ps.length ≤ 1048576 ∧ (∀ p ∈ ps, p.traits.length ≤ 1048576) ∧ Stop (∀ H' b, H'.WF → Sub H H' → NewSi H.n H' b ps → K (.c (.sl (b) (0) (ps.length))) H') ()) ps_v
  | _ => False
@[simp ↓] theorem q_toSiS_eq (ps_v : AV) (H : AHeap) (K : AV → AHeap → Prop) : q_toSiS [ps_v] H K = (eSi.rd H (fun ps => ps.length ≤ 1048576 ∧ (∀ p ∈ ps, p.traits.length ≤ 1048576) ∧ Stop (∀ H' b, H'.WF → Sub H H' → NewSi H.n H' b ps → K (.c (.sl (b) (0) (ps.length))) H') ()) ps_v) := rfl

theorem NewSi.sub {lo : Nat} {H H' : AHeap} {b : Nat} {ps : List Si} (h : NewSi lo H b ps) (hs : Sub H H') : NewSi lo H' b ps := by
  obtain ⟨cs, h1, h2, h3, h4, h5⟩ := h.ex
  exact ⟨h.ge, h.tx, cs, h1, h2, h3, hs.1.2 _ _ h4, fun j c p hc hp => hs.1.2 _ _ (h5 j c p hc hp)⟩
theorem Sub.trans {H H' H'' : AHeap} (h : Sub H H') (h' : Sub H' H'') : Sub H H'' := ⟨⟨Nat.le_trans h.1.1 h'.1.1, fun b k hk => h'.1.2 b k (h.1.2 b k hk)⟩, h.2.trans h'.2⟩
theorem EncH.decL_zip {α : Type} (E : EncH α) {H : AHeap} (f : Nat → α → List AC) : ∀ (cs : List Nat) (ps : List α), cs.length = ps.length → (∀ (j c : Nat) (p : α), cs[j]? = some c → ps[j]? = some p → E.dec H (f c p) = some p) → E.decL H (List.zipWith f cs ps) = some ps
  | [], [], _, _ => rfl
  | c :: cs, p :: ps, hl, h => by
    have h0 := h 0 c p rfl rfl
    have hr := E.decL_zip f cs ps (by simpa using hl) fun j c' p' hc hp => h (j + 1) c' p' (by simpa using hc) (by simpa using hp)
    simp only [List.zipWith_cons_cons, EncH.decL, h0, hr]
  | [], _ :: _, h, _ => by simp at h
  | _ :: _, [], h, _ => by simp at h
theorem eSi_cells {H : AHeap} {c : Nat} {p : Si} (hb : H.b c = some (rowK eI 3 p.traits)) (ht : p.town.length ≤ 9223372036854775807) : eSi.dec H (siCells c p) = some p := by
  simp only [eSi, siCells]
  rw [if_pos ht]
  simp [rdI, hb]
theorem NewSi.at {lo : Nat} {H : AHeap} {b : Nat} {ps : List Si} (h : NewSi lo H b ps) : ∃ k, eSi.At H b 0 k ps ∧ k.els.length = ps.length := by
  obtain ⟨cs, h1, h2, h3, h4, h5⟩ := h.ex
  refine ⟨_, ⟨h4, rfl, by simp [h1], ?_⟩, by simp [h1]⟩
  have hd := eSi.decL_zip (H := H) siCells cs ps h1 fun j c p hc hp => eSi_cells (h5 j c p hc hp) (h.tx p (List.mem_of_getElem? hp))
  have hl : (List.zipWith siCells cs ps).length = ps.length := by simp [h1]
  simpa [hl, List.take_of_length_le] using hd
theorem EncH.At.sub {α : Type} {E : EncH α} {H H' : AHeap} {b i : Nat} {k : ABlk} {l : List α} (h : E.At H b i k l) (hs : Sub H H') : E.At H' b i k l := ⟨hs.1.2 _ _ h.blk, h.esz, h.len, E.decL_mono (SubE.of_sub hs) h.els⟩
/-- how many numbers and bytes a list may still have -/
def szSi (p : Si) (l : Int) : Int := if l - (p.town.length : Int) < 0 then -1 else if l - (p.town.length : Int) - (p.traits.length : Int) < 0 then -1 else l - (p.town.length : Int) - (p.traits.length : Int)
def szSiGo : List Si → Int → Int
  | [], l => l
  | p :: r, l => if szSi p l < 0 then -1 else szSiGo r (szSi p l)
def szSis (ps : List Si) (l : Int) : Int := if l - (ps.length : Int) < 0 then -1 else szSiGo ps (l - (ps.length : Int))
theorem szSi_le (p : Si) {l : Int} (h : 0 ≤ szSi p l) : szSi p l ≤ l ∧ (p.traits.length : Int) ≤ l := by
  unfold szSi at *
  split at h
  · omega
  · split at h
    · omega
    · rename_i h1 h2; rw [if_neg h1, if_neg h2]; omega
theorem szSiGo_ok : ∀ (ps : List Si) (l : Int), 0 ≤ szSiGo ps l → ∀ p ∈ ps, (p.traits.length : Int) ≤ l
  | [], _, _, p, hp => by cases hp
  | q :: r, l, h, p, hp => by
    simp only [szSiGo] at h
    split at h
    · omega
    · rename_i h1
      have h2 := szSi_le q (l := l) (by omega)
      rcases List.mem_cons.1 hp with rfl | hp
      · exact h2.2
      · have := szSiGo_ok r _ h p hp; omega
theorem szSis_ok {ps : List Si} (h : 0 ≤ szSis ps 1048576) : ps.length ≤ 1048576 ∧ ∀ p ∈ ps, p.traits.length ≤ 1048576 := by
  unfold szSis at h
  split at h
  · omega
  · refine ⟨by omega, fun p hp => ?_⟩
    have := szSiGo_ok ps _ h p hp
    omega

def q_szSInt : Con := fun args H K => match args with
  | [.c (.sl ps_b ps_i ps), .c (.int .i64 l)] => 0 ≤ l ∧ l ≤ 1048576 ∧ ps ≤ 9223372036854775807 ∧ K (.c (.int .i64 (if l - (ps : Int) < 0 then -1 else l - (ps : Int)))) H
  | _ => False
@[simp ↓] theorem q_szSInt_eq (ps_b ps_i ps : Nat) (l : Int) (H : AHeap) (K : AV → AHeap → Prop) : q_szSInt [.c (.sl ps_b ps_i ps), .c (.int .i64 l)] H K = (0 ≤ l ∧ l ≤ 1048576 ∧ ps ≤ 9223372036854775807 ∧ K (.c (.int .i64 (if l - (ps : Int) < 0 then -1 else l - (ps : Int)))) H) := rfl

def q_szSi : Con := fun args H K => match args with
  | [.agg p_e, .c (.int .i64 l)] => onv (eSi.dec H p_e) fun p => 0 ≤ l ∧ l ≤ 1048576 ∧ K (.c (.int .i64 (szSi p l))) H
  | _ => False
@[simp ↓] theorem q_szSi_eq (p_e : List AC) (l : Int) (H : AHeap) (K : AV → AHeap → Prop) : q_szSi [.agg p_e, .c (.int .i64 l)] H K = (onv (eSi.dec H p_e) fun p => 0 ≤ l ∧ l ≤ 1048576 ∧ K (.c (.int .i64 (szSi p l))) H) := rfl

def q_szSis : Con := fun args H K => match args with
  | [ps_v, .c (.int .i64 l)] => eSi.rd H (fun ps => 0 ≤ l ∧ l ≤ 1048576 ∧ K (.c (.int .i64 (szSis ps l))) H) ps_v
  | _ => False
@[simp ↓] theorem q_szSis_eq (ps_v : AV) (l : Int) (H : AHeap) (K : AV → AHeap → Prop) : q_szSis [ps_v, .c (.int .i64 l)] H K = (eSi.rd H (fun ps => 0 ≤ l ∧ l ≤ 1048576 ∧ K (.c (.int .i64 (szSis ps l))) H) ps_v) := rfl

def q_eqSi : Con := fun args H K => match args with
  | [.agg p_e, .agg r_e] => onv (eSi.dec H p_e) fun p => onv (eSi.dec H r_e) fun r => K (.c (.bool (decide (p = r)))) H
  | _ => False
@[simp ↓] theorem q_eqSi_eq (p_e : List AC) (r_e : List AC) (H : AHeap) (K : AV → AHeap → Prop) : q_eqSi [.agg p_e, .agg r_e] H K = (onv (eSi.dec H p_e) fun p => onv (eSi.dec H r_e) fun r => K (.c (.bool (decide (p = r)))) H) := rfl

theorem si_ext {p r : Si} : p = r ↔ p.id = r.id ∧ p.year = r.year ∧ p.town = r.town ∧ p.traits = r.traits := by
  cases p; cases r; simp

def q_eqSis : Con := fun args H K => match args with
  | [ps_v, rs_v] => eSi.rd H (fun ps => eSi.rd H (fun rs => K (.c (.bool (decide (ps = rs)))) H) rs_v) ps_v
  | _ => False
@[simp ↓] theorem q_eqSis_eq (ps_v : AV) (rs_v : AV) (H : AHeap) (K : AV → AHeap → Prop) : q_eqSis [ps_v, rs_v] H K = (eSi.rd H (fun ps => eSi.rd H (fun rs => K (.c (.bool (decide (ps = rs)))) H) rs_v) ps_v) := rfl

end Go.Proofs.YtafenginfojcmaaGreatDoor
set_option maxRecDepth 8000
set_option linter.unusedSimpArgs false
set_option linter.unusedVariables false
namespace Go.Proofs.YtafenginfojcmaaGreatDoor
open Go Go.RowKit

def evOf (ps : List Si) (a b : Int) : Int × Bool := if areSi ps = true then match ps.find? fun s => decide (s.id = a), ps.find? fun s => decide (s.id = b) with
  | some x, some y => (evid x y, true)
  | _, _ => (0, false) else (0, false)

def q_evOf : Con := fun args H K => match args with
  | [ps_v, .c (.int .i64 a), .c (.int .i64 b)] => eSi.rd H (fun ps => (∀ p ∈ ps, p.traits.length ≤ 1048576) ∧ K (.tup [.c (.int .i64 ((evOf ps a b).1)), .c (.bool ((evOf ps a b).2))]) H) ps_v
  | _ => False
@[simp ↓] theorem q_evOf_eq (ps_v : AV) (a : Int) (b : Int) (H : AHeap) (K : AV → AHeap → Prop) : q_evOf [ps_v, .c (.int .i64 a), .c (.int .i64 b)] H K = (eSi.rd H (fun ps => (∀ p ∈ ps, p.traits.length ≤ 1048576) ∧ K (.tup [.c (.int .i64 ((evOf ps a b).1)), .c (.bool ((evOf ps a b).2))]) H) ps_v) := rfl

theorem impl_EvidenceOf_s : Sound Tryz.prog 8 q_evOf := by
  intro args H K h
  unfold q_evOf at h
  split at h
  rotate_left
  all_goals first | exact False.elim h | skip
  rename_i ps_v a b
  have h1 := EncH.rd_at h
  clear h
  obtain ⟨b_ps, i_ps, k_ps, ps, rfl, hat_ps, h⟩ := h1
  have hE := soundE_cons impl_sightingAt_s (soundE_cons impl_areSightings_s (soundE_cons impl_evidence_s (soundE_nil (P := Tryz.prog))))
  refine acalls_fn impl_EvidenceOf_k hE ⟨by simp, fun hwf => ?_⟩
  obtain ⟨hsr, hsp, hst, hss, hsk⟩ := hs_of hwf
  have hon_ps := hat_ps.on
  have hb_ps : b_ps < H.n := (hwf b_ps k_ps hat_ps.blk).1
  have hne_ps : (b_ps = H.n) = False := eq_false (by omega)
  have hne1_ps : ∀ i, (b_ps = H.n + i) = False := fun i => eq_false (by omega)
  have hne2_ps := ne2_of (a := b_ps) (b := H.n) (by omega)
  have hmx_ps : ps.length ≤ 9223372036854775807 := by have h1 := (hwf b_ps k_ps hat_ps.blk).2.2; have h2 := hat_ps.len; omega
  obtain ⟨hl, h⟩ := h
  unfold evOf at h
  rcases ixOf_find (fun s : Si => decide (s.id = a)) ps with ⟨e1, f1⟩ | ⟨m, hm, e1, f1, _⟩
  · simp (config := {contextual := true, implicitDefEqProofs := false, maxSteps := 2000000}) [-Int.not_le, -Int.not_lt, argsF, impl_EvidenceOf_c, hat_ps.blk, hat_ps.esz, hat_ps.len, hon_ps, hne_ps, hne1_ps, hne2_ps, hsr, hsp, hst, hss, hsk, e1]
    simp only [f1, ite_self] at h
    repeat' (refine ite_i (fun _ => ?_) (fun _ => ?_))
    all_goals ((refine Out.plain hwf ?_ rfl ?_; (repeat first | exact Sub.refl _ | refine Sub.push hwf ?_ _ | refine Sub.set hwf ?_ (by first | exact Nat.le_refl _ | omega | (simp only [push_n, set_n, kill_n]; omega)) _ | refine Sub.kill hwf ?_ (by first | exact Nat.le_refl _ | omega | (simp only [push_n, set_n, kill_n]; omega)))); simpa using h)
  rcases ixOf_find (fun s : Si => decide (s.id = b)) ps with ⟨e2, f2⟩ | ⟨n, hn, e2, f2, _⟩
  · simp (config := {contextual := true, implicitDefEqProofs := false, maxSteps := 2000000}) [-Int.not_le, -Int.not_lt, argsF, impl_EvidenceOf_c, hat_ps.blk, hat_ps.esz, hat_ps.len, hon_ps, hne_ps, hne1_ps, hne2_ps, hsr, hsp, hst, hss, hsk, e1, e2]
    simp only [f1, f2, ite_self] at h
    repeat' (refine ite_i (fun _ => ?_) (fun _ => ?_))
    all_goals ((refine Out.plain hwf ?_ rfl ?_; (repeat first | exact Sub.refl _ | refine Sub.push hwf ?_ _ | refine Sub.set hwf ?_ (by first | exact Nat.le_refl _ | omega | (simp only [push_n, set_n, kill_n]; omega)) _ | refine Sub.kill hwf ?_ (by first | exact Nat.le_refl _ | omega | (simp only [push_n, set_n, kill_n]; omega)))); simpa using h)
  by_cases hv : areSi ps = true
  rotate_left
  · simp (config := {contextual := true, implicitDefEqProofs := false, maxSteps := 2000000}) [-Int.not_le, -Int.not_lt, argsF, impl_EvidenceOf_c, hat_ps.blk, hat_ps.esz, hat_ps.len, hon_ps, hne_ps, hne1_ps, hne2_ps, hsr, hsp, hst, hss, hsk, e1, e2, hv]
    simp only [hv, if_false, reduceCtorEq] at h
    (refine Out.plain hwf ?_ rfl ?_; (repeat first | exact Sub.refl _ | refine Sub.push hwf ?_ _ | refine Sub.set hwf ?_ (by first | exact Nat.le_refl _ | omega | (simp only [push_n, set_n, kill_n]; omega)) _ | refine Sub.kill hwf ?_ (by first | exact Nat.le_refl _ | omega | (simp only [push_n, set_n, kill_n]; omega)))); exact h
  simp only [f1, f2, hv, if_true] at h
  obtain ⟨ex_x, e_x, hd_x⟩ := hat_ps.get hm
  obtain ⟨b_x, i_x, k_x, rfl, hat_x, htx_x⟩ := eSi_at hd_x
  have hb_x : b_x < H.n := (hwf b_x k_x hat_x.blk).1
  have hne_x : (b_x = H.n) = False := eq_false (by omega)
  have hne1_x : ∀ i, (b_x = H.n + i) = False := fun i => eq_false (by omega)
  have hne2_x := ne2_of (a := b_x) (b := H.n) (by omega)
  obtain ⟨ex_y, e_y, hd_y⟩ := hat_ps.get hn
  obtain ⟨b_y, i_y, k_y, rfl, hat_y, htx_y⟩ := eSi_at hd_y
  have hb_y : b_y < H.n := (hwf b_y k_y hat_y.blk).1
  have hne_y : (b_y = H.n) = False := eq_false (by omega)
  have hne1_y : ∀ i, (b_y = H.n + i) = False := fun i => eq_false (by omega)
  have hne2_y := ne2_of (a := b_y) (b := H.n) (by omega)
  have hm0 : ((m : Int) < 0) = False := eq_false (by omega)
  have hn0 : ((n : Int) < 0) = False := eq_false (by omega)
  have hm1 : ((m : Int) < (ps.length : Int)) = True := eq_true (by omega)
  have hn1 : ((n : Int) < (ps.length : Int)) = True := eq_true (by omega)
  have hm2 : (0 ≤ (m : Int)) = True := eq_true (by omega)
  have hn2 : (0 ≤ (n : Int)) = True := eq_true (by omega)
  have hla := hl _ (List.getElem_mem hm)
  have hlb := hl _ (List.getElem_mem hn)
  simp (config := {contextual := true, implicitDefEqProofs := false, maxSteps := 2000000}) [-Int.not_le, -Int.not_lt, argsF, impl_EvidenceOf_c, hat_ps.blk, hat_ps.esz, hat_ps.len, hon_ps, hne_ps, hne1_ps, hne2_ps, hsr, hsp, hst, hss, hsk, e1, e2, hv, hm0, hn0, hm1, hn1, hm2, hn2, hm, hn, hla, hlb, e_x, htx_x, hat_x.blk, hat_x.esz, hat_x.len, hat_x.els, hne_x, hne1_x, hne2_x, e_y, htx_y, hat_y.blk, hat_y.esz, hat_y.len, hat_y.els, hne_y, hne1_y, hne2_y]
  (refine Out.plain hwf ?_ rfl ?_; (repeat first | exact Sub.refl _ | refine Sub.push hwf ?_ _ | refine Sub.set hwf ?_ (by first | exact Nat.le_refl _ | omega | (simp only [push_n, set_n, kill_n]; omega)) _ | refine Sub.kill hwf ?_ (by first | exact Nat.le_refl _ | omega | (simp only [push_n, set_n, kill_n]; omega)))); exact h

end Go.Proofs.YtafenginfojcmaaGreatDoor
set_option maxRecDepth 8000
set_option linter.unusedSimpArgs false
set_option linter.unusedVariables false
namespace Go.Proofs.YtafenginfojcmaaGreatDoor
open Go Go.RowKit

set_option maxHeartbeats 1000000
theorem siGo_all : ∀ (l : List Si) (o : Option Si), siGo o l = true → ∀ p ∈ l, isSi p = true
  | [], _, _, p, hp => by cases hp
  | x :: r, o, h, p, hp => by
    simp only [siGo, Bool.if_false_right, Bool.and_eq_true, decide_eq_true_eq] at h
    obtain ⟨hx, _, hr⟩ := h
    rcases List.mem_cons.1 hp with rfl | hp
    · exact hx
    · exact siGo_all r _ hr p hp
theorem areSi_b {ps : List Si} (h : areSi ps = true) : ∀ p ∈ ps, 1 ≤ p.id ∧ p.id ≤ 999 ∧ 1840 ≤ p.year ∧ p.year ≤ 2100 ∧ p.traits.length ≤ 8 := fun p hp => by
  unfold areSi at h
  simp only [Bool.and_eq_true] at h
  have h1 := siGo_all ps none h.1 p hp
  unfold isSi inR at h1
  simp only [Bool.and_eq_true, decide_eq_true_eq] at h1
  omega
theorem evid_b {s t : Si} (h1 : s.traits.length ≤ 8) (h2 : t.traits.length ≤ 8) : -99 < evid s t := by
  unfold evid
  split <;> omega
@[simp] theorem si_eta0 (p : Si) : (⟨p.id, p.year, p.town, p.traits⟩ : Si) = p := (rfl)
abbrev SpS := Option (Int × Int × Int)
def spStep (x y : Si) : SpS → SpS
  | none => some (x.id, y.id, evid x y)
  | some t => if t.2.2 < evid x y then some (x.id, y.id, evid x y) else some t
def spIn (x : Si) : List Si → SpS → SpS
  | [], s => s
  | y :: r, s => spIn x r (spStep x y s)
def spOut : List Si → SpS → SpS
  | [], s => s
  | x :: r, s => spOut r (spIn x r s)
theorem spStep_some (x y : Si) (s : SpS) : ∃ t, spStep x y s = some t := by
  cases s with
  | none => exact ⟨_, rfl⟩
  | some t => simp only [spStep]; split <;> exact ⟨_, rfl⟩
theorem spIn_some (x : Si) : ∀ (l : List Si) (t : Int × Int × Int), ∃ t', spIn x l (some t) = some t'
  | [], t => ⟨t, rfl⟩
  | y :: r, t => by
    obtain ⟨t', h⟩ := spStep_some x y (some t)
    rw [spIn, h]
    exact spIn_some x r t'
theorem spOut_some : ∀ (l : List Si) (t : Int × Int × Int), ∃ t', spOut l (some t) = some t'
  | [], t => ⟨t, rfl⟩
  | x :: r, t => by
    obtain ⟨t', h⟩ := spIn_some x r t
    rw [spOut, h]
    exact spOut_some r t'
theorem spOut_two {l : List Si} (h : 2 ≤ l.length) : ∃ t, spOut l none = some t := by
  match l, h with
  | x :: y :: r, _ =>
    rw [spOut, spIn]
    obtain ⟨t, h⟩ := spStep_some x y none
    rw [h]
    obtain ⟨t', h⟩ := spIn_some x r t
    rw [h]
    exact spOut_some _ t'
def spOk (s : SpS) : Prop := ∀ t, s = some t → 0 ≤ t.1
theorem spOk_step {x y : Si} {s : SpS} (hx : 1 ≤ x.id) (h : spOk s) : spOk (spStep x y s) := fun t ht => by
  cases s with
  | none => cases ht; simp only; omega
  | some u =>
    simp only [spStep] at ht
    split at ht
    · cases ht; simp only; omega
    · cases ht; exact h _ rfl
def spRes (ps : List Si) : Int × Int × Int × Bool := if areSi ps = true then if (ps.length : Int) < 2 then (0, 0, 0, false) else match spOut ps none with
  | some t => (t.1, t.2.1, t.2.2, true)
  | none => (0, 0, 0, false) else (0, 0, 0, false)

def q_sp : Con := fun args H K => match args with
  | [ps_v] => eSi.rd H (fun ps => K (.tup [.c (.int .i64 ((spRes ps).1)), .c (.int .i64 ((spRes ps).2.1)), .c (.int .i64 ((spRes ps).2.2.1)), .c (.bool ((spRes ps).2.2.2))]) H) ps_v
  | _ => False
@[simp ↓] theorem q_sp_eq (ps_v : AV) (H : AHeap) (K : AV → AHeap → Prop) : q_sp [ps_v] H K = (eSi.rd H (fun ps => K (.tup [.c (.int .i64 ((spRes ps).1)), .c (.int .i64 ((spRes ps).2.1)), .c (.int .i64 ((spRes ps).2.2.1)), .c (.bool ((spRes ps).2.2.2))]) H) ps_v) := rfl

theorem impl_StrongestPair_s : Sound Tryz.prog 6 q_sp := by
  intro args H K h
  unfold q_sp at h
  split at h
  rotate_left
  all_goals first | exact False.elim h | skip
  rename_i ps_v
  have h1 := EncH.rd_at h
  clear h
  obtain ⟨b_ps, i_ps, k_ps, ps, rfl, hat_ps, h⟩ := h1
  have hE := soundE_cons impl_areSightings_s (soundE_cons impl_evidence_s (soundE_nil (P := Tryz.prog)))
  refine acalls_fn impl_StrongestPair_k hE ⟨by simp, fun hwf => ?_⟩
  obtain ⟨hsr, hsp, hst, hss, hsk⟩ := hs_of hwf
  have hon_ps := hat_ps.on
  have hb_ps : b_ps < H.n := (hwf b_ps k_ps hat_ps.blk).1
  have hne_ps : (b_ps = H.n) = False := eq_false (by omega)
  have hne1_ps : ∀ i, (b_ps = H.n + i) = False := fun i => eq_false (by omega)
  have hne2_ps := ne2_of (a := b_ps) (b := H.n) (by omega)
  have hmx_ps : ps.length ≤ 9223372036854775807 := by have h1 := (hwf b_ps k_ps hat_ps.blk).2.2; have h2 := hat_ps.len; omega
  unfold spRes at h
  by_cases hv : areSi ps = true
  rotate_left
  · simp (config := {contextual := true, implicitDefEqProofs := false, maxSteps := 2000000}) [-Int.not_le, -Int.not_lt, argsF, impl_StrongestPair_c, hat_ps.blk, hat_ps.esz, hat_ps.len, hon_ps, hne_ps, hne1_ps, hne2_ps, hsr, hsp, hst, hss, hsk, hv]
    simp only [hv, if_false, reduceCtorEq] at h
    (refine Out.plain hwf ?_ rfl ?_; (repeat first | exact Sub.refl _ | refine Sub.push hwf ?_ _ | refine Sub.set hwf ?_ (by first | exact Nat.le_refl _ | omega | (simp only [push_n, set_n, kill_n]; omega)) _ | refine Sub.kill hwf ?_ (by first | exact Nat.le_refl _ | omega | (simp only [push_n, set_n, kill_n]; omega)))); exact h
  simp only [hv, if_true] at h
  by_cases hl2 : (ps.length : Int) < 2
  · simp (config := {contextual := true, implicitDefEqProofs := false, maxSteps := 2000000}) [-Int.not_le, -Int.not_lt, argsF, impl_StrongestPair_c, hat_ps.blk, hat_ps.esz, hat_ps.len, hon_ps, hne_ps, hne1_ps, hne2_ps, hsr, hsp, hst, hss, hsk, hv, hl2]
    simp only [hl2, if_true] at h
    (refine Out.plain hwf ?_ rfl ?_; (repeat first | exact Sub.refl _ | refine Sub.push hwf ?_ _ | refine Sub.set hwf ?_ (by first | exact Nat.le_refl _ | omega | (simp only [push_n, set_n, kill_n]; omega)) _ | refine Sub.kill hwf ?_ (by first | exact Nat.le_refl _ | omega | (simp only [push_n, set_n, kill_n]; omega)))); exact h
  simp only [hl2, if_false] at h
  obtain ⟨tt, htt⟩ := spOut_two (l := ps) (by omega)
  rw [htt] at h
  have hab := areSi_b hv
  simp (config := {contextual := true, implicitDefEqProofs := false, maxSteps := 2000000}) [-Int.not_le, -Int.not_lt, argsF, impl_StrongestPair_c, hat_ps.blk, hat_ps.esz, hat_ps.len, hon_ps, hne_ps, hne1_ps, hne2_ps, hsr, hsp, hst, hss, hsk, hv, hl2]
  refine aloop_list ps (fun jo (s : SpS) => [(0, .c (.sl b_ps i_ps ps.length)), (6, .c (.int .i64 (((s : SpS).getD (-1, -1, 0)).1))), (7, .c (.int .i64 (((s : SpS).getD (-1, -1, 0)).2.1))), (8, .c (.int .i64 (((s : SpS).getD (-1, -1, 0)).2.2))), (22, .c (.sl b_ps i_ps ps.length)), (23, .c (.int .i64 ps.length)), (24, .c (.int .i64 (jo)))]) (fun jo s => H) (fun jo l s => spOk s ∧ spOut l s = some tt) hE _ none ⟨fun t ht => (by cases ht), htt⟩ (.same hwf (by simp [frOk, AV.okR, AV.ok1, AC.okR, AV.ren, AV.ren1, AC.ren, AFrame.get, pl1_old, *]; first | done | rfl | omega)) (fun jo s hlto hio => ?_) fun s hio => ?_
  · obtain ⟨hso, hio⟩ := hio
    have hj1o := idx_lt hlto
    have w1o : IntKind.i64.wrap ((jo : Int) + 1) = (jo : Int) + 1 := wrap_id (by omega) (by omega)
    have hj2o : (0 : Int) ≤ (jo : Int) + 1 := by omega
    have ejo : ((jo : Int) + 1).toNat = jo + 1 := by omega
    have hle : jo + 1 ≤ ps.length := by omega
    have hlei : (jo : Int) + 1 ≤ (ps.length : Int) := by omega
    obtain ⟨ex_x, e_x, hd_x⟩ := hat_ps.get hlto
    obtain ⟨b_x, i_x, k_x, rfl, hat_x, htx_x⟩ := eSi_at hd_x
    have hb_x : b_x < H.n := (hwf b_x k_x hat_x.blk).1
    have hne_x : (b_x = H.n) = False := eq_false (by omega)
    have hne1_x : ∀ i, (b_x = H.n + i) = False := fun i => eq_false (by omega)
    have hne2_x := ne2_of (a := b_x) (b := H.n) (by omega)
    have hidx := (hab _ (List.getElem_mem hlto)).1
    have htrx := (hab _ (List.getElem_mem hlto)).2.2.2.2
    have htrx' : ps[jo].traits.length ≤ 1048576 := by omega
    simp only [spOut] at hio
    have hwf1 : (H.push (boxS b_x i_x ps[jo])).WF := WF.push hwf (by simp [boxS, AC.okR, hb_x]) (by simp [boxS])
    simp (config := {contextual := true, implicitDefEqProofs := false, maxSteps := 2000000}) [-Int.not_le, -Int.not_lt, argsF, impl_StrongestPair_l1, hat_ps.blk, hat_ps.esz, hat_ps.len, hon_ps, hne_ps, hne1_ps, hne2_ps, hsr, hsp, hst, hss, hsk, e_x, htx_x, hat_x.blk, hat_x.esz, hat_x.len, hat_x.els, hne_x, hne1_x, hne2_x, hj1o, w1o, hj2o, ejo, hlto, hle, hlei, boxS]
    refine aloop_list (ps.drop (jo + 1)) (fun j (s : SpS) => [(0, .c (.sl b_ps i_ps ps.length)), (6, .c (.int .i64 (((s : SpS).getD (-1, -1, 0)).1))), (7, .c (.int .i64 (((s : SpS).getD (-1, -1, 0)).2.1))), (8, .c (.int .i64 (((s : SpS).getD (-1, -1, 0)).2.2))), (10, .c (.ptr H.n 0 0)), (22, .c (.sl b_ps i_ps ps.length)), (23, .c (.int .i64 ps.length)), (24, .c (.int .i64 (jo))), (32, .c (.sl (b_ps) (i_ps + (jo + 1)) (ps.length - (jo + 1)))), (33, .c (.int .i64 (((ps.length - (jo + 1) : Nat) : Int)))), (34, .c (.int .i64 (j)))]) (fun j s => H.push (boxS b_x i_x ps[jo])) (fun j l s => spOk s ∧ spOut (ps.drop (jo + 1)) (spIn ps[jo] l s) = some tt) hE _ s ⟨hso, hio⟩ (.since (by simp only [push_n]; omega) hwf1 (.refl _) (by simp [frOk, AV.okR, AV.ok1, AC.okR, AV.ren, AV.ren1, AC.ren, AFrame.get, pl1_old, *]; first | done | rfl | omega)) (fun j s hlt hi => ?_) fun s hi => ?_
    · obtain ⟨hs, hi⟩ := hi
      have hlt' : j < ps.length - (jo + 1) := by simpa using hlt
      have hjl : jo + 1 + j < ps.length := by omega
      rw [show (ps.drop (jo + 1))[j] = ps[jo + 1 + j] by simp [List.getElem_drop]] at hi
      simp only [spIn] at hi
      obtain ⟨ex_y, e_y, hd_y⟩ := hat_ps.get hjl
      obtain ⟨b_y, i_y, k_y, rfl, hat_y, htx_y⟩ := eSi_at hd_y
      have hb_y : b_y < H.n := (hwf b_y k_y hat_y.blk).1
      have hne_y : (b_y = H.n) = False := eq_false (by omega)
      have hne1_y : ∀ i, (b_y = H.n + i) = False := fun i => eq_false (by omega)
      have hne2_y := ne2_of (a := b_y) (b := H.n) (by omega)
      have e_y' := e_y
      rw [← Nat.add_assoc] at e_y'
      have hidy := (hab _ (List.getElem_mem hjl)).1
      have htry := (hab _ (List.getElem_mem hjl)).2.2.2.2
      have htry' : ps[jo + 1 + j].traits.length ≤ 1048576 := by omega
      have hev := evid_b htrx htry
      have g1 : ((j : Int) < ((ps.length - (jo + 1) : Nat) : Int)) = True := eq_true (by omega)
      have g2 : ((jo : Int) + 1 + (j : Int) < (ps.length : Int)) = True := eq_true (by omega)
      have g3 : (0 ≤ (jo : Int) + 1 + (j : Int)) = True := eq_true (by omega)
      have g4 : ((jo : Int) + 1 + (j : Int)).toNat = jo + 1 + j := by omega
      have w1 : IntKind.i64.wrap ((j : Int) + 1) = (j : Int) + 1 := wrap_id (by omega) (by omega)
      have w2 : IntKind.i64.wrap ((jo : Int) + 1 + (j : Int) + 1) = (jo : Int) + 1 + ((j : Int) + 1) := (wrap_id (by omega) (by omega)).trans (by omega)
      cases s with
      | none =>
        simp (config := {contextual := true, implicitDefEqProofs := false, maxSteps := 2000000}) [-Int.not_le, -Int.not_lt, argsF, impl_StrongestPair_l0, hat_ps.blk, hat_ps.esz, hat_ps.len, hon_ps, hne_ps, hne1_ps, hne2_ps, hsr, hsp, hst, hss, hsk, e_x, htx_x, hat_x.blk, hat_x.esz, hat_x.len, hat_x.els, hne_x, hne1_x, hne2_x, e_y, htx_y, hat_y.blk, hat_y.esz, hat_y.len, hat_y.els, hne_y, hne1_y, hne2_y, e_y', boxS, g1, g2, g3, g4, w1, w2, hlt', hjl, hlto, hj1o, htrx', htry', hev]
        simp only [spStep] at hi
        exact ⟨some _, ⟨fun u hu => (by cases hu; simp only; omega), hi⟩, .since (by simp only [push_n]; omega) hwf1 (Sub.set hwf1 (Sub.push hwf1 (.refl _) _) (Nat.le_refl _) _) (by simp [frOk, AV.okR, AV.ok1, AC.okR, AV.ren, AV.ren1, AC.ren, AFrame.get, pl1_old, *]; first | done | rfl | omega)⟩
      | some t =>
        have ht := hs t rfl
        have ht0 : (t.1 < 0) = False := eq_false (by omega)
        simp only [spStep] at hi
        by_cases hc : t.2.2 < evid ps[jo] ps[jo + 1 + j]
        · simp only [hc, if_true] at hi
          simp (config := {contextual := true, implicitDefEqProofs := false, maxSteps := 2000000}) [-Int.not_le, -Int.not_lt, argsF, impl_StrongestPair_l0, hat_ps.blk, hat_ps.esz, hat_ps.len, hon_ps, hne_ps, hne1_ps, hne2_ps, hsr, hsp, hst, hss, hsk, e_x, htx_x, hat_x.blk, hat_x.esz, hat_x.len, hat_x.els, hne_x, hne1_x, hne2_x, e_y, htx_y, hat_y.blk, hat_y.esz, hat_y.len, hat_y.els, hne_y, hne1_y, hne2_y, e_y', boxS, g1, g2, g3, g4, w1, w2, hlt', hjl, hlto, hj1o, htrx', htry', ht0, hc]
          exact ⟨some _, ⟨fun u hu => (by cases hu; simp only; omega), hi⟩, .since (by simp only [push_n]; omega) hwf1 (Sub.set hwf1 (Sub.push hwf1 (.refl _) _) (Nat.le_refl _) _) (by simp [frOk, AV.okR, AV.ok1, AC.okR, AV.ren, AV.ren1, AC.ren, AFrame.get, pl1_old, *]; first | done | rfl | omega)⟩
        · simp only [hc, if_false] at hi
          simp (config := {contextual := true, implicitDefEqProofs := false, maxSteps := 2000000}) [-Int.not_le, -Int.not_lt, argsF, impl_StrongestPair_l0, hat_ps.blk, hat_ps.esz, hat_ps.len, hon_ps, hne_ps, hne1_ps, hne2_ps, hsr, hsp, hst, hss, hsk, e_x, htx_x, hat_x.blk, hat_x.esz, hat_x.len, hat_x.els, hne_x, hne1_x, hne2_x, e_y, htx_y, hat_y.blk, hat_y.esz, hat_y.len, hat_y.els, hne_y, hne1_y, hne2_y, e_y', boxS, g1, g2, g3, g4, w1, w2, hlt', hjl, hlto, hj1o, htrx', htry', ht0, hc]
          exact ⟨some _, ⟨hs, hi⟩, .since (by simp only [push_n]; omega) hwf1 (Sub.set hwf1 (Sub.push hwf1 (.refl _) _) (Nat.le_refl _) _) (by simp [frOk, AV.okR, AV.ok1, AC.okR, AV.ren, AV.ren1, AC.ren, AFrame.get, pl1_old, *]; first | done | rfl | omega)⟩
    · obtain ⟨hs, hi⟩ := hi
      simp only [spIn] at hi
      have g5 : (jo : Int) + 1 + ((ps.length - (jo + 1) : Nat) : Int) = (ps.length : Int) := by omega
      simp (config := {contextual := true, implicitDefEqProofs := false, maxSteps := 2000000}) [-Int.not_le, -Int.not_lt, argsF, impl_StrongestPair_l0, g5, hj1o, w1o, ejo, hat_ps.blk, hat_ps.esz, hat_ps.len, hon_ps, hne_ps, hne1_ps, hne2_ps, hsr, hsp, hst, hss, hsk]
      exact ⟨s, ⟨hs, hi⟩, .drop hwf (by (repeat first | exact Sub.refl _ | refine Sub.push hwf ?_ _ | refine Sub.set hwf ?_ (by first | exact Nat.le_refl _ | omega | (simp only [push_n, set_n, kill_n]; omega)) _ | refine Sub.kill hwf ?_ (by first | exact Nat.le_refl _ | omega | (simp only [push_n, set_n, kill_n]; omega)))) (by simp [frOk, AV.okR, AV.ok1, AC.okR, AV.ren, AV.ren1, AC.ren, AFrame.get, pl1_old, *]; first | done | rfl | omega)⟩
  · obtain ⟨hso, hio⟩ := hio
    simp only [spOut] at hio
    subst hio
    simp (config := {contextual := true, implicitDefEqProofs := false, maxSteps := 2000000}) [-Int.not_le, -Int.not_lt, argsF, impl_StrongestPair_l1]
    (refine Out.plain hwf ?_ rfl ?_; (repeat first | exact Sub.refl _ | refine Sub.push hwf ?_ _ | refine Sub.set hwf ?_ (by first | exact Nat.le_refl _ | omega | (simp only [push_n, set_n, kill_n]; omega)) _ | refine Sub.kill hwf ?_ (by first | exact Nat.le_refl _ | omega | (simp only [push_n, set_n, kill_n]; omega)))); exact h

theorem spec_StrongestPair_s : Sound Tryz.prog 7 q_sp := by
  intro args H K h
  unfold q_sp at h
  split at h
  rotate_left
  all_goals first | exact False.elim h | skip
  rename_i ps_v
  have h1 := EncH.rd_at h
  clear h
  obtain ⟨b_ps, i_ps, k_ps, ps, rfl, hat_ps, h⟩ := h1
  have hE := soundE_cons spec_l13Good_s (soundE_cons spec_l13Evidence_s (soundE_nil (P := Tryz.prog)))
  refine acalls_fn spec_StrongestPair_k hE ⟨by simp, fun hwf => ?_⟩
  obtain ⟨hsr, hsp, hst, hss, hsk⟩ := hs_of hwf
  have hon_ps := hat_ps.on
  have hb_ps : b_ps < H.n := (hwf b_ps k_ps hat_ps.blk).1
  have hne_ps : (b_ps = H.n) = False := eq_false (by omega)
  have hne1_ps : ∀ i, (b_ps = H.n + i) = False := fun i => eq_false (by omega)
  have hne2_ps := ne2_of (a := b_ps) (b := H.n) (by omega)
  have hmx_ps : ps.length ≤ 9223372036854775807 := by have h1 := (hwf b_ps k_ps hat_ps.blk).2.2; have h2 := hat_ps.len; omega
  unfold spRes at h
  by_cases hv : areSi ps = true
  rotate_left
  · simp (config := {contextual := true, implicitDefEqProofs := false, maxSteps := 2000000}) [-Int.not_le, -Int.not_lt, argsF, spec_StrongestPair_c, hat_ps.blk, hat_ps.esz, hat_ps.len, hon_ps, hne_ps, hne1_ps, hne2_ps, hsr, hsp, hst, hss, hsk, hv]
    simp only [hv, if_false, reduceCtorEq] at h
    (refine Out.plain hwf ?_ rfl ?_; (repeat first | exact Sub.refl _ | refine Sub.push hwf ?_ _ | refine Sub.set hwf ?_ (by first | exact Nat.le_refl _ | omega | (simp only [push_n, set_n, kill_n]; omega)) _ | refine Sub.kill hwf ?_ (by first | exact Nat.le_refl _ | omega | (simp only [push_n, set_n, kill_n]; omega)))); exact h
  simp only [hv, if_true] at h
  by_cases hl2 : (ps.length : Int) < 2
  · simp (config := {contextual := true, implicitDefEqProofs := false, maxSteps := 2000000}) [-Int.not_le, -Int.not_lt, argsF, spec_StrongestPair_c, hat_ps.blk, hat_ps.esz, hat_ps.len, hon_ps, hne_ps, hne1_ps, hne2_ps, hsr, hsp, hst, hss, hsk, hv, hl2]
    simp only [hl2, if_true] at h
    (refine Out.plain hwf ?_ rfl ?_; (repeat first | exact Sub.refl _ | refine Sub.push hwf ?_ _ | refine Sub.set hwf ?_ (by first | exact Nat.le_refl _ | omega | (simp only [push_n, set_n, kill_n]; omega)) _ | refine Sub.kill hwf ?_ (by first | exact Nat.le_refl _ | omega | (simp only [push_n, set_n, kill_n]; omega)))); exact h
  simp only [hl2, if_false] at h
  obtain ⟨tt, htt⟩ := spOut_two (l := ps) (by omega)
  rw [htt] at h
  have hab := areSi_b hv
  simp (config := {contextual := true, implicitDefEqProofs := false, maxSteps := 2000000}) [-Int.not_le, -Int.not_lt, argsF, spec_StrongestPair_c, hat_ps.blk, hat_ps.esz, hat_ps.len, hon_ps, hne_ps, hne1_ps, hne2_ps, hsr, hsp, hst, hss, hsk, hv, hl2]
  refine aloop_list ps (fun jo (s : SpS) => [(0, .c (.sl b_ps i_ps ps.length)), (6, .c (.int .i64 (((s : SpS).getD (0, 0, -99)).1))), (7, .c (.int .i64 (((s : SpS).getD (0, 0, -99)).2.1))), (8, .c (.int .i64 (((s : SpS).getD (0, 0, -99)).2.2))), (9, .c (.int .i64 (jo)))]) (fun jo s => H) (fun jo l s => spOk s ∧ spOut l s = some tt) hE _ none ⟨fun t ht => (by cases ht), htt⟩ (.same hwf (by simp [frOk, AV.okR, AV.ok1, AC.okR, AV.ren, AV.ren1, AC.ren, AFrame.get, pl1_old, *]; first | done | rfl | omega)) (fun jo s hlto hio => ?_) fun s hio => ?_
  · obtain ⟨hso, hio⟩ := hio
    have hj1o := idx_lt hlto
    have w1o : IntKind.i64.wrap ((jo : Int) + 1) = (jo : Int) + 1 := wrap_id (by omega) (by omega)
    have hj2o : (0 : Int) ≤ (jo : Int) + 1 := by omega
    have ejo : ((jo : Int) + 1).toNat = jo + 1 := by omega
    have hle : jo + 1 ≤ ps.length := by omega
    have hlei : (jo : Int) + 1 ≤ (ps.length : Int) := by omega
    obtain ⟨ex_x, e_x, hd_x⟩ := hat_ps.get hlto
    obtain ⟨b_x, i_x, k_x, rfl, hat_x, htx_x⟩ := eSi_at hd_x
    have hb_x : b_x < H.n := (hwf b_x k_x hat_x.blk).1
    have hne_x : (b_x = H.n) = False := eq_false (by omega)
    have hne1_x : ∀ i, (b_x = H.n + i) = False := fun i => eq_false (by omega)
    have hne2_x := ne2_of (a := b_x) (b := H.n) (by omega)
    have hidx := (hab _ (List.getElem_mem hlto)).1
    have htrx := (hab _ (List.getElem_mem hlto)).2.2.2.2
    have htrx' : ps[jo].traits.length ≤ 1048576 := by omega
    simp only [spOut] at hio
    
    simp (config := {contextual := true, implicitDefEqProofs := false, maxSteps := 2000000}) [-Int.not_le, -Int.not_lt, argsF, spec_StrongestPair_l1, hat_ps.blk, hat_ps.esz, hat_ps.len, hon_ps, hne_ps, hne1_ps, hne2_ps, hsr, hsp, hst, hss, hsk, e_x, htx_x, hat_x.blk, hat_x.esz, hat_x.len, hat_x.els, hne_x, hne1_x, hne2_x, hj1o, w1o, hj2o, ejo, hlto, hle, hlei, boxS]
    refine aloop_list (ps.drop (jo + 1)) (fun j (s : SpS) => [(0, .c (.sl b_ps i_ps ps.length)), (6, .c (.int .i64 (((s : SpS).getD (0, 0, -99)).1))), (7, .c (.int .i64 (((s : SpS).getD (0, 0, -99)).2.1))), (8, .c (.int .i64 (((s : SpS).getD (0, 0, -99)).2.2))), (9, .c (.int .i64 (jo))), (10, .c (.int .i64 ((jo : Int) + 1 + (j : Int))))]) (fun j s => H) (fun j l s => spOk s ∧ spOut (ps.drop (jo + 1)) (spIn ps[jo] l s) = some tt) hE _ s ⟨hso, hio⟩ (.same hwf (by simp [frOk, AV.okR, AV.ok1, AC.okR, AV.ren, AV.ren1, AC.ren, AFrame.get, pl1_old, *]; first | done | rfl | omega)) (fun j s hlt hi => ?_) fun s hi => ?_
    · obtain ⟨hs, hi⟩ := hi
      have hlt' : j < ps.length - (jo + 1) := by simpa using hlt
      have hjl : jo + 1 + j < ps.length := by omega
      rw [show (ps.drop (jo + 1))[j] = ps[jo + 1 + j] by simp [List.getElem_drop]] at hi
      simp only [spIn] at hi
      obtain ⟨ex_y, e_y, hd_y⟩ := hat_ps.get hjl
      obtain ⟨b_y, i_y, k_y, rfl, hat_y, htx_y⟩ := eSi_at hd_y
      have hb_y : b_y < H.n := (hwf b_y k_y hat_y.blk).1
      have hne_y : (b_y = H.n) = False := eq_false (by omega)
      have hne1_y : ∀ i, (b_y = H.n + i) = False := fun i => eq_false (by omega)
      have hne2_y := ne2_of (a := b_y) (b := H.n) (by omega)
      have e_y' := e_y
      rw [← Nat.add_assoc] at e_y'
      have hidy := (hab _ (List.getElem_mem hjl)).1
      have htry := (hab _ (List.getElem_mem hjl)).2.2.2.2
      have htry' : ps[jo + 1 + j].traits.length ≤ 1048576 := by omega
      have hev := evid_b htrx htry
      have g1 : ((j : Int) < ((ps.length - (jo + 1) : Nat) : Int)) = True := eq_true (by omega)
      have g2 : ((jo : Int) + 1 + (j : Int) < (ps.length : Int)) = True := eq_true (by omega)
      have g3 : (0 ≤ (jo : Int) + 1 + (j : Int)) = True := eq_true (by omega)
      have g4 : ((jo : Int) + 1 + (j : Int)).toNat = jo + 1 + j := by omega
      have w1 : IntKind.i64.wrap ((j : Int) + 1) = (j : Int) + 1 := wrap_id (by omega) (by omega)
      have w2 : IntKind.i64.wrap ((jo : Int) + 1 + (j : Int) + 1) = (jo : Int) + 1 + ((j : Int) + 1) := (wrap_id (by omega) (by omega)).trans (by omega)
      cases s with
      | none =>
        simp (config := {contextual := true, implicitDefEqProofs := false, maxSteps := 2000000}) [-Int.not_le, -Int.not_lt, argsF, spec_StrongestPair_l0, hat_ps.blk, hat_ps.esz, hat_ps.len, hon_ps, hne_ps, hne1_ps, hne2_ps, hsr, hsp, hst, hss, hsk, e_x, htx_x, hat_x.blk, hat_x.esz, hat_x.len, hat_x.els, hne_x, hne1_x, hne2_x, e_y, htx_y, hat_y.blk, hat_y.esz, hat_y.len, hat_y.els, hne_y, hne1_y, hne2_y, e_y', boxS, g1, g2, g3, g4, w1, w2, hlt', hjl, hlto, hj1o, htrx', htry', hev]
        simp only [spStep] at hi
        exact ⟨some _, ⟨fun u hu => (by cases hu; simp only; omega), hi⟩, .drop hwf (by (repeat first | exact Sub.refl _ | refine Sub.push hwf ?_ _ | refine Sub.set hwf ?_ (by first | exact Nat.le_refl _ | omega | (simp only [push_n, set_n, kill_n]; omega)) _ | refine Sub.kill hwf ?_ (by first | exact Nat.le_refl _ | omega | (simp only [push_n, set_n, kill_n]; omega)))) (by simp [frOk, AV.okR, AV.ok1, AC.okR, AV.ren, AV.ren1, AC.ren, AFrame.get, pl1_old, *]; first | done | rfl | omega)⟩
      | some t =>
        have ht := hs t rfl
        have ht0 : (t.1 < 0) = False := eq_false (by omega)
        simp only [spStep] at hi
        by_cases hc : t.2.2 < evid ps[jo] ps[jo + 1 + j]
        · simp only [hc, if_true] at hi
          simp (config := {contextual := true, implicitDefEqProofs := false, maxSteps := 2000000}) [-Int.not_le, -Int.not_lt, argsF, spec_StrongestPair_l0, hat_ps.blk, hat_ps.esz, hat_ps.len, hon_ps, hne_ps, hne1_ps, hne2_ps, hsr, hsp, hst, hss, hsk, e_x, htx_x, hat_x.blk, hat_x.esz, hat_x.len, hat_x.els, hne_x, hne1_x, hne2_x, e_y, htx_y, hat_y.blk, hat_y.esz, hat_y.len, hat_y.els, hne_y, hne1_y, hne2_y, e_y', boxS, g1, g2, g3, g4, w1, w2, hlt', hjl, hlto, hj1o, htrx', htry', ht0, hc]
          exact ⟨some _, ⟨fun u hu => (by cases hu; simp only; omega), hi⟩, .drop hwf (by (repeat first | exact Sub.refl _ | refine Sub.push hwf ?_ _ | refine Sub.set hwf ?_ (by first | exact Nat.le_refl _ | omega | (simp only [push_n, set_n, kill_n]; omega)) _ | refine Sub.kill hwf ?_ (by first | exact Nat.le_refl _ | omega | (simp only [push_n, set_n, kill_n]; omega)))) (by simp [frOk, AV.okR, AV.ok1, AC.okR, AV.ren, AV.ren1, AC.ren, AFrame.get, pl1_old, *]; first | done | rfl | omega)⟩
        · simp only [hc, if_false] at hi
          simp (config := {contextual := true, implicitDefEqProofs := false, maxSteps := 2000000}) [-Int.not_le, -Int.not_lt, argsF, spec_StrongestPair_l0, hat_ps.blk, hat_ps.esz, hat_ps.len, hon_ps, hne_ps, hne1_ps, hne2_ps, hsr, hsp, hst, hss, hsk, e_x, htx_x, hat_x.blk, hat_x.esz, hat_x.len, hat_x.els, hne_x, hne1_x, hne2_x, e_y, htx_y, hat_y.blk, hat_y.esz, hat_y.len, hat_y.els, hne_y, hne1_y, hne2_y, e_y', boxS, g1, g2, g3, g4, w1, w2, hlt', hjl, hlto, hj1o, htrx', htry', ht0, hc]
          exact ⟨some _, ⟨hs, hi⟩, .drop hwf (by (repeat first | exact Sub.refl _ | refine Sub.push hwf ?_ _ | refine Sub.set hwf ?_ (by first | exact Nat.le_refl _ | omega | (simp only [push_n, set_n, kill_n]; omega)) _ | refine Sub.kill hwf ?_ (by first | exact Nat.le_refl _ | omega | (simp only [push_n, set_n, kill_n]; omega)))) (by simp [frOk, AV.okR, AV.ok1, AC.okR, AV.ren, AV.ren1, AC.ren, AFrame.get, pl1_old, *]; first | done | rfl | omega)⟩
    · obtain ⟨hs, hi⟩ := hi
      simp only [spIn] at hi
      have g5 : (jo : Int) + 1 + ((ps.length - (jo + 1) : Nat) : Int) = (ps.length : Int) := by omega
      simp (config := {contextual := true, implicitDefEqProofs := false, maxSteps := 2000000}) [-Int.not_le, -Int.not_lt, argsF, spec_StrongestPair_l0, g5, hj1o, w1o, ejo, hat_ps.blk, hat_ps.esz, hat_ps.len, hon_ps, hne_ps, hne1_ps, hne2_ps, hsr, hsp, hst, hss, hsk]
      exact ⟨s, ⟨hs, hi⟩, .drop hwf (by (repeat first | exact Sub.refl _ | refine Sub.push hwf ?_ _ | refine Sub.set hwf ?_ (by first | exact Nat.le_refl _ | omega | (simp only [push_n, set_n, kill_n]; omega)) _ | refine Sub.kill hwf ?_ (by first | exact Nat.le_refl _ | omega | (simp only [push_n, set_n, kill_n]; omega)))) (by simp [frOk, AV.okR, AV.ok1, AC.okR, AV.ren, AV.ren1, AC.ren, AFrame.get, pl1_old, *]; first | done | rfl | omega)⟩
  · obtain ⟨hso, hio⟩ := hio
    simp only [spOut] at hio
    subst hio
    simp (config := {contextual := true, implicitDefEqProofs := false, maxSteps := 2000000}) [-Int.not_le, -Int.not_lt, argsF, spec_StrongestPair_l1]
    (refine Out.plain hwf ?_ rfl ?_; (repeat first | exact Sub.refl _ | refine Sub.push hwf ?_ _ | refine Sub.set hwf ?_ (by first | exact Nat.le_refl _ | omega | (simp only [push_n, set_n, kill_n]; omega)) _ | refine Sub.kill hwf ?_ (by first | exact Nat.le_refl _ | omega | (simp only [push_n, set_n, kill_n]; omega)))); exact h

end Go.Proofs.YtafenginfojcmaaGreatDoor
set_option maxRecDepth 8000
set_option linter.unusedSimpArgs false
set_option linter.unusedVariables false
namespace Go.Proofs.YtafenginfojcmaaGreatDoor
open Go Go.RowKit

set_option maxHeartbeats 4000000

def ltI (n : Int) (x : Int) : Bool := decide (x < n)
def hasP (l : List Int) (n : Int) : Bool := decide ((l.dropWhile (ltI n)).head? = some n)
def putI (l : List Int) (n : Int) : List Int := if hasP l n = true then l else l.takeWhile (ltI n) ++ n :: l.dropWhile (ltI n)
theorem drop_tw (n : Int) : ∀ l : List Int, l.drop (l.takeWhile (ltI n)).length = l.dropWhile (ltI n)
  | [] => rfl
  | x :: r => by
    simp only [List.takeWhile_cons, List.dropWhile_cons]
    split
    · simpa using drop_tw n r
    · rfl
theorem take_tw (n : Int) : ∀ l : List Int, l.take (l.takeWhile (ltI n)).length = l.takeWhile (ltI n)
  | [] => rfl
  | x :: r => by
    simp only [List.takeWhile_cons]
    split
    · simpa using take_tw n r
    · rfl
theorem len_tw (n : Int) (l : List Int) : (l.takeWhile (ltI n)).length ≤ l.length := by
  have := congrArg List.length (take_tw n l)
  simp only [List.length_take] at this
  omega

theorem putI_at {ps : List Int} {n : Int} {j : Nat} (hj : (ps.takeWhile (ltI n)).length = j) (hh : hasP ps n = false) : putI ps n = ps.take j ++ n :: ps.drop j := by
  subst hj
  rw [putI, hh, take_tw, drop_tw]
  rfl
theorem hasP_at {ps : List Int} {n : Int} {j : Nat} (hj : (ps.takeWhile (ltI n)).length = j) : hasP ps n = decide ((ps.drop j).head? = some n) := by
  subst hj
  rw [hasP, drop_tw]
theorem at_take {ps : List Int} {H : AHeap} {b i : Nat} {k : ABlk} (h : eI.At H b i k ps) {j : Nat} (hj : j ≤ ps.length) : List.take j (List.drop i k.els) = (ps.take j).map eI.cells := by
  have h1 := congrArg (List.take j) h.els
  rwa [List.take_take, Nat.min_eq_left hj, ← List.map_take] at h1
theorem at_drop {ps : List Int} {H : AHeap} {b i : Nat} {k : ABlk} (h : eI.At H b i k ps) (j : Nat) : List.take (ps.length - j) (List.drop (i + j) k.els) = (ps.drop j).map eI.cells := by
  have h1 := congrArg (List.drop j) h.els
  rwa [List.drop_take, List.drop_drop, ← List.map_drop] at h1
theorem putI_row {ps : List Int} {n : Int} {j : Nat} (T : TypeId) (hj : (ps.takeWhile (ltI n)).length = j) (hl : j ≤ ps.length) (hh : hasP ps n = false) :
    (⟨T, 1, false, false, List.take (j + 1) ((ps.take j).map eI.cells ++ [[AC.int IntKind.i64 n]]) ++ (ps.drop j).map eI.cells⟩ : ABlk) = rowK eI T (putI ps n) ∧ j + 1 + (ps.length - j) = (putI ps n).length := by
  rw [putI_at hj hh]
  refine ⟨?_, by simp; omega⟩
  rw [List.take_of_length_le (by simp; omega)]
  simp [rowK]

def q_put : Con := fun args H K => match args with
  | [ps_v, .c (.int .i64 n)] => eI.rd H (fun ps => ps.length ≤ 1000000 ∧ (if hasP ps n = true then K ps_v H else K (.c (.sl (H.n) (0) ((putI ps n).length))) (H.push (rowK eI 3 (putI ps n))))) ps_v
  | _ => False
@[simp ↓] theorem q_put_eq (ps_v : AV) (n : Int) (H : AHeap) (K : AV → AHeap → Prop) : q_put [ps_v, .c (.int .i64 n)] H K = (eI.rd H (fun ps => ps.length ≤ 1000000 ∧ (if hasP ps n = true then K ps_v H else K (.c (.sl (H.n) (0) ((putI ps n).length))) (H.push (rowK eI 3 (putI ps n))))) ps_v) := rfl

theorem spec_l1Put_s : Sound Tryz.prog 48 q_put := by
  intro args H K h
  unfold q_put at h
  split at h
  rotate_left
  all_goals first | exact False.elim h | skip
  rename_i ps_v n
  have h1 := Enc.rd_at h
  clear h
  obtain ⟨b_ps, i_ps, k_ps, ps, rfl, hat_ps, h⟩ := h1
  have hE := soundE_nil (P := Tryz.prog)
  refine acalls_fn spec_l1Put_k hE ⟨by simp, fun hwf => ?_⟩
  have hb_ps : b_ps < H.n := (hwf b_ps k_ps hat_ps.blk).1
  have hne_ps : (b_ps = H.n) = False := eq_false (by omega)
  have hne1_ps : ∀ i, (b_ps = H.n + i) = False := fun i => eq_false (by omega)
  have hne2_ps := ne2_of (a := b_ps) (b := H.n) (by omega)
  have hmx_ps : ps.length ≤ 9223372036854775807 := by have h1 := (hwf b_ps k_ps hat_ps.blk).2.2; have h2 := hat_ps.len; omega
  obtain ⟨hl, h⟩ := h
  simp (config := {contextual := true, implicitDefEqProofs := false, maxSteps := 2000000}) [-Int.not_le, -Int.not_lt, argsF, spec_l1Put_c, hat_ps.blk, hat_ps.esz, hat_ps.len, hat_ps.els, hne_ps, hne1_ps, hne2_ps]
  refine aloop_list ps (fun j _ => [(0, .c (.sl b_ps i_ps ps.length)), (1, .c (.int .i64 (n))), (5, .c (.int .i64 (j)))]) (fun j _ => H) (fun j l _ => (ps.takeWhile (ltI n)).length = j + (l.takeWhile (ltI n)).length) hE _ (()) (by simp) (.same hwf (by simp [frOk, AV.okR, AV.ok1, AC.okR, AV.ren, AV.ren1, AC.ren, AFrame.get, pl1_old, *]; first | done | rfl | omega)) (fun j _ hlt hi => ?_) fun _ hi => ?_
  ·
    have e1 := hat_ps.get hlt
    have hj1 := idx_lt hlt
    have w1 : IntKind.i64.wrap ((j : Int) + 1) = (j : Int) + 1 := wrap_id (by omega) (by omega)
    simp (config := {contextual := true, implicitDefEqProofs := false, maxSteps := 2000000}) [-Int.not_le, -Int.not_lt, argsF, spec_l1Put_l0, hat_ps.blk, hat_ps.esz, hat_ps.len, hat_ps.els, hne_ps, hne1_ps, hne2_ps, e1, hj1, w1]
    have hlen := hat_ps.len
    simp only [List.takeWhile_cons] at hi
    refine ite_i (fun hc => ?_) (fun hc => ite_i (fun hc2 => ?_) (fun hc2 => ?_))
    · have hc' : ltI n ps[j] = true := by simp [ltI, hc]
      rw [hc', if_pos rfl, List.length_cons] at hi
      exact ⟨(), by omega, .drop hwf (by (repeat first | exact Sub.refl _ | refine Sub.push hwf ?_ _ | refine Sub.set hwf ?_ (by first | exact Nat.le_refl _ | omega | (simp only [push_n, set_n, kill_n]; omega)) _ | refine Sub.kill hwf ?_ (by first | exact Nat.le_refl _ | omega | (simp only [push_n, set_n, kill_n]; omega)))) (by simp [frOk, AV.okR, AV.ok1, AC.okR, AV.ren, AV.ren1, AC.ren, AFrame.get, pl1_old, *]; first | done | rfl | omega)⟩
    · have hc' : ltI n ps[j] = false := by simp [ltI, hc]
      rw [hc', if_neg (by simp), List.length_nil, Nat.add_zero] at hi
      have hh : hasP ps n = true := by rw [hasP_at hi, List.drop_eq_getElem_cons hlt]; simp [hc2, List.getElem?_eq_getElem hlt]
      rw [if_pos hh] at h
      exact .old hwf (.refl _) (by simp [frOk, AV.okR, AV.ok1, AC.okR, AV.ren, AV.ren1, AC.ren, AFrame.get, pl1_old, *]; first | done | rfl | omega) h
    · have hc' : ltI n ps[j] = false := by simp [ltI, hc]
      rw [hc', if_neg (by simp), List.length_nil, Nat.add_zero] at hi
      have hh : hasP ps n = false := by rw [hasP_at hi, List.drop_eq_getElem_cons hlt]; simp [hc2, List.getElem?_eq_getElem hlt]
      rw [if_neg (by simp [hh])] at h
      have m1 : min j (k_ps.els.length - i_ps) = j := by omega
      have m2 : min (ps.length - j) (k_ps.els.length - (i_ps + j)) = ps.length - j := by omega
      obtain ⟨r1, r2⟩ := putI_row 3 hi (by omega) hh
      rw [m1, m2, at_take hat_ps (by omega), at_drop hat_ps, r1, r2]
      refine ⟨by omega, by omega, by omega, by omega, by omega, by omega, by omega, by omega, by omega, by omega, ?_⟩
      clear r1 r2
      exact (.one (c := some (H.n + 1 + 1 + 1 + 1)) hwf (by (repeat first | exact Sub.refl _ | refine Sub.push hwf ?_ _ | refine Sub.set hwf ?_ (by first | exact Nat.le_refl _ | omega | (simp only [push_n, set_n, kill_n]; omega)) _ | refine Sub.kill hwf ?_ (by first | exact Nat.le_refl _ | omega | (simp only [push_n, set_n, kill_n]; omega)))) ⟨by omega, by simp [push_b, set_b, kill_b, rowK]; done⟩ (plain_map (fun _ => rfl) _) (by simp [frOk, AV.okR, AV.ok1, AC.okR, AV.ren, AV.ren1, AC.ren, AFrame.get, pl1_old, *]; first | done | rfl | omega) h)
  ·
    simp (config := {contextual := true, implicitDefEqProofs := false, maxSteps := 2000000}) [-Int.not_le, -Int.not_lt, argsF, spec_l1Put_l0, hat_ps.blk, hat_ps.esz, hat_ps.len, hat_ps.els, hne_ps, hne1_ps, hne2_ps]
    have hi' : (ps.takeWhile (ltI n)).length = ps.length := by simpa using hi
    have hh : hasP ps n = false := by rw [hasP_at hi']; simp
    rw [if_neg (by simp [hh])] at h
    have r := putI_at hi' hh
    simp only [List.take_length, List.drop_length] at r
    have r2 : ps.length + 1 = (putI ps n).length := by rw [r]; simp
    have r1 : (⟨3, 1, false, false, List.map eI.cells ps ++ [[AC.int IntKind.i64 n]]⟩ : ABlk) = rowK eI 3 (putI ps n) := by rw [r]; simp [rowK]
    refine ⟨by omega, by omega, by omega, by omega, by omega, by omega, ?_⟩
    rw [r1, r2]
    clear r r1 r2 hi hi'
    exact (.one (c := some (H.n + 1 + 1 + 1 + 1)) hwf (by (repeat first | exact Sub.refl _ | refine Sub.push hwf ?_ _ | refine Sub.set hwf ?_ (by first | exact Nat.le_refl _ | omega | (simp only [push_n, set_n, kill_n]; omega)) _ | refine Sub.kill hwf ?_ (by first | exact Nat.le_refl _ | omega | (simp only [push_n, set_n, kill_n]; omega)))) ⟨by omega, by simp [push_b, set_b, kill_b, rowK]; done⟩ (plain_map (fun _ => rfl) _) (by simp [frOk, AV.okR, AV.ok1, AC.okR, AV.ren, AV.ren1, AC.ren, AFrame.get, pl1_old, *]; first | done | rfl | omega) h)

end Go.Proofs.YtafenginfojcmaaGreatDoor
set_option maxRecDepth 8000
set_option linter.unusedSimpArgs false
set_option linter.unusedVariables false
namespace Go.Proofs.YtafenginfojcmaaGreatDoor
open Go Go.RowKit

set_option maxHeartbeats 4000000
/-- two sightings have evidence enough -/
def edge (ps : List Si) (limit : Int) (x k : Nat) : Bool := decide (limit ≤ evid (ps.getD x default) (ps.getD k default))
def nats (L : List Nat) : List Int := L.map fun (k : Nat) => (k : Int)
@[simp] theorem nats_len (L : List Nat) : (nats L).length = L.length := by simp [nats]
theorem nats_mem {L : List Nat} {k : Nat} : (k : Int) ∈ nats L ↔ k ∈ L := by
  simp only [nats, List.mem_map]
  exact ⟨fun ⟨a, h, e⟩ => by rw [← Int.ofNat_inj.1 e]; exact h, fun h => ⟨k, h, rfl⟩⟩
theorem nats_tw (L : List Nat) (k : Nat) : (nats L).takeWhile (ltI k) = nats (L.takeWhile fun x => decide (x < k)) := by
  induction L with
  | nil => rfl
  | cons x r ih =>
    simp only [nats, List.map_cons, List.takeWhile_cons] at ih ⊢
    by_cases h : x < k
    · simp [ltI, h, ih, nats]
    · simp [ltI, h, nats]
theorem nats_dw (L : List Nat) (k : Nat) : (nats L).dropWhile (ltI k) = nats (L.dropWhile fun x => decide (x < k)) := by
  induction L with
  | nil => rfl
  | cons x r ih =>
    simp only [nats, List.map_cons, List.dropWhile_cons] at ih ⊢
    by_cases h : x < k
    · simp [ltI, h, ih, nats]
    · simp [ltI, h, nats]
theorem nats_put {L : List Nat} {k : Nat} (h : k ∉ L) : hasP (nats L) k = false ∧ putI (nats L) k = nats (putN L k) := by
  have h1 : hasP (nats L) k = false := by
    rw [hasP, nats_dw]
    refine decide_eq_false fun hc => h ?_
    have := List.mem_of_mem_head? hc
    exact (List.dropWhile_sublist _).mem (nats_mem.1 this)
  refine ⟨h1, ?_⟩
  rw [putI, h1, nats_dw, nats_tw]
  simp [nats, putN]
structure CvX where
  H : AHeap
  b : Nat
  o : Nat
  kb : ABlk
  L : List Nat
  more : Bool
structure CvX.Ok (x : CvX) (H0 : AHeap) (e : Nat → Nat → Bool) (n i : Nat) : Prop where
  sub : Sub H0 x.H
  row : eI.At x.H x.b x.o x.kb (nats x.L)
  up : x.L.Pairwise (· < ·)
  mem : i ∈ x.L
  rch : ∀ k ∈ x.L, Rch e n i k
def CvX.Mid (x x0 : CvX) (H0 : AHeap) (e : Nat → Nat → Bool) (n i k : Nat) : Prop := x.Ok H0 e n i ∧ k ≤ n ∧ (x.more = false → x.L = x0.L ∧ ∀ y ∈ x.L, ∀ k', k' < k → e y k' = true → k' ∈ x.L) ∧ (x.more = true → x0.L.length < x.L.length)
def CvX.Inn (x x0 : CvX) (H0 : AHeap) (e : Nat → Nat → Bool) (n i k j : Nat) : Prop := x.Mid x0 H0 e n i k ∧ k < n ∧ j ≤ x.L.length ∧ (k ∈ x.L ∨ ∀ j' (h : j' < x.L.length), j' < j → e x.L[j'] k = false)
def CvX.put (x : CvX) (T : TypeId) (k : Nat) : CvX := ⟨x.H.push (rowK eI T (nats (putN x.L k))), x.H.n, 0, rowK eI T (nats (putN x.L k)), putN x.L k, true⟩
@[simp] theorem CvX.put_b (x : CvX) (T : TypeId) (k : Nat) : (x.put T k).b = x.H.n := rfl
@[simp] theorem CvX.put_o (x : CvX) (T : TypeId) (k : Nat) : (x.put T k).o = 0 := rfl
@[simp] theorem CvX.put_L (x : CvX) (T : TypeId) (k : Nat) : (x.put T k).L = putN x.L k := rfl
@[simp] theorem CvX.put_more (x : CvX) (T : TypeId) (k : Nat) : (x.put T k).more = true := rfl
theorem CvX.Ok.len {x : CvX} {H0 : AHeap} {e : Nat → Nat → Bool} {n i : Nat} (h : x.Ok H0 e n i) : x.L.length ≤ n := by
  have := up_len (lo := 0) (n := n) h.up fun y hy => ⟨Nat.zero_le _, (h.rch y hy).lt⟩
  omega
theorem nats_at {H : AHeap} (T : TypeId) (L : List Nat) : eI.At (H.push (rowK eI T (nats L))) H.n 0 (rowK eI T (nats L)) (nats L) :=
  ⟨by simp [AHeap.push], rfl, by simp [nats], by simp [rowK, nats]⟩
section
variable {x x0 : CvX} {H0 : AHeap} {e : Nat → Nat → Bool} {n i k j : Nat}
theorem CvX.hit (h : x.Inn x0 H0 e n i k j) (hwf : H0.WF) (hj : j < x.L.length) (hk : k ∉ x.L) (he : e x.L[j] k = true) (T : TypeId) : (x.put T k).Inn x0 H0 e n i k (j + 1) := by
  obtain ⟨⟨hok, h1, h2, h3⟩, h4, h5, h6⟩ := h
  have hlen : x0.L.length ≤ x.L.length := by
    cases hm : x.more
    · rw [(h2 hm).1]; exact Nat.le_refl _
    · exact Nat.le_of_lt (h3 hm)
  have hpl := putN_len x.L k
  refine ⟨⟨⟨Sub.push hwf hok.sub _, nats_at T _, putN_up hok.up hk, putN_mem.2 (.inl hok.mem), fun y hy => ?_⟩, h1, fun hm => (by cases hm), fun _ => ?_⟩, h4, ?_, .inl (putN_mem.2 (.inr rfl))⟩
  · rcases putN_mem.1 hy with hy | rfl
    · exact hok.rch y hy
    · exact (hok.rch _ (List.getElem_mem hj)).step h4 he
  · simp only [CvX.put, hpl]; omega
  · simp only [CvX.put, hpl]; omega
theorem CvX.miss (h : x.Inn x0 H0 e n i k j) (hj : j < x.L.length) (he : e x.L[j] k = false) : x.Inn x0 H0 e n i k (j + 1) := by
  obtain ⟨hm, h4, h5, h6⟩ := h
  refine ⟨hm, h4, hj, h6.imp_right fun h6 j' hj' hlt => ?_⟩
  rcases Nat.lt_or_ge j' j with h | h
  · exact h6 j' hj' h
  · obtain rfl : j' = j := by omega
    exact he
theorem CvX.next (h : x.Inn x0 H0 e n i k j) (hc : x.L.length ≤ j ∨ k ∈ x.L) : x.Mid x0 H0 e n i (k + 1) := by
  obtain ⟨⟨hok, h1, h2, h3⟩, h4, h5, h6⟩ := h
  refine ⟨hok, h4, fun hm => ⟨(h2 hm).1, fun y hy k' hk' he => ?_⟩, h3⟩
  rcases Nat.lt_or_ge k' k with h | h
  · exact (h2 hm).2 y hy k' h he
  · obtain rfl : k' = k := by omega
    rcases h6 with h6 | h6
    · exact h6
    · rcases hc with hc | hc
      · obtain ⟨q, hq, rfl⟩ := List.getElem_of_mem hy
        rw [h6 q hq (by omega)] at he
        cases he
      · exact hc
theorem CvX.fin (h : x.Mid x0 H0 e n i n) (h0 : x0.more = true) : (x.Ok H0 e n i ∧ (x.more = false → ∀ y ∈ x.L, ∀ k, k < n → e y k = true → k ∈ x.L)) ∧ 2 * (n - x.L.length) + (if x.more = true then 1 else 0) < 2 * (n - x0.L.length) + (if x0.more = true then 1 else 0) := by
  obtain ⟨hok, h1, h2, h3⟩ := h
  refine ⟨⟨hok, fun hm => (h2 hm).2⟩, ?_⟩
  have := hok.len
  rw [if_pos h0]
  cases hm : x.more
  · rw [(h2 hm).1]; simp
  · have := h3 hm; simp only [if_true]; omega
end

def q_cover : Con := fun args H K => match args with
  | [ps_v, .c (.int .i64 limit), .c (.int .i64 i)] => eSi.rd H (fun ps => 0 ≤ i ∧ i.toNat < ps.length ∧ ps.length ≤ 10 ∧ (∀ p ∈ ps, p.traits.length ≤ 1048576) ∧ Stop (∀ H' b o k, H'.WF → Sub H H' → eI.At H' b o k (nats (comp (edge ps limit) ps.length i.toNat)) → K (.c (.sl (b) (o) ((comp (edge ps limit) ps.length i.toNat).length))) H') ()) ps_v
  | _ => False
@[simp ↓] theorem q_cover_eq (ps_v : AV) (limit : Int) (i : Int) (H : AHeap) (K : AV → AHeap → Prop) : q_cover [ps_v, .c (.int .i64 limit), .c (.int .i64 i)] H K = (eSi.rd H (fun ps => 0 ≤ i ∧ i.toNat < ps.length ∧ ps.length ≤ 10 ∧ (∀ p ∈ ps, p.traits.length ≤ 1048576) ∧ Stop (∀ H' b o k, H'.WF → Sub H H' → eI.At H' b o k (nats (comp (edge ps limit) ps.length i.toNat)) → K (.c (.sl (b) (o) ((comp (edge ps limit) ps.length i.toNat).length))) H') ()) ps_v) := rfl

theorem spec_l13Cover_s : Sound Tryz.prog 39 q_cover := by
  intro args H K h
  unfold q_cover at h
  split at h
  rotate_left
  all_goals first | exact False.elim h | skip
  rename_i ps_v limit i
  have h1 := EncH.rd_at h
  clear h
  obtain ⟨b_ps, i_ps, k_ps, ps, rfl, hat_ps, h⟩ := h1
  have hE := soundE_cons spec_l1Has_s (soundE_cons spec_l13Evidence_s (soundE_cons spec_l1Put_s (soundE_nil (P := Tryz.prog))))
  refine acalls_fn spec_l13Cover_k hE ⟨by simp, fun hwf => ?_⟩
  obtain ⟨hsr, hsp, hst, hss, hsk⟩ := hs_of hwf
  have hon_ps := hat_ps.on
  have hb_ps : b_ps < H.n := (hwf b_ps k_ps hat_ps.blk).1
  have hne_ps : (b_ps = H.n) = False := eq_false (by omega)
  have hne1_ps : ∀ i, (b_ps = H.n + i) = False := fun i => eq_false (by omega)
  have hne2_ps := ne2_of (a := b_ps) (b := H.n) (by omega)
  have hmx_ps : ps.length ≤ 9223372036854775807 := by have h1 := (hwf b_ps k_ps hat_ps.blk).2.2; have h2 := hat_ps.len; omega
  obtain ⟨hi0, hin, hl, hl2, h⟩ := h
  simp (config := {contextual := true, implicitDefEqProofs := false, maxSteps := 2000000}) [-Int.not_le, -Int.not_lt, argsF, spec_l13Cover_c, hat_ps.blk, hat_ps.esz, hat_ps.len, hon_ps, hne_ps, hne1_ps, hne2_ps, hsr, hsp, hst, hss, hsk]
  have hrow0 : H.push ⟨3, 1, false, false, [[.int .i64 i]]⟩ = H.push (rowK eI 3 (nats [i.toNat])) := by simp [rowK, nats, Int.max_eq_left hi0]
  refine aloop_heap (X := CvX) (fun x => [(0, .c (.sl b_ps i_ps ps.length)), (1, .c (.int .i64 (limit))), (7, .c (.sl (x.b) (x.o) (x.L.length))), (8, .c (.bool (x.more)))]) (fun x => x.H) (fun x => x.Ok H (edge ps limit) ps.length i.toNat ∧ (x.more = false → ∀ y ∈ x.L, ∀ k, k < ps.length → edge ps limit y k = true → k ∈ x.L))
    (fun x => 2 * (ps.length - x.L.length) + (if x.more = true then 1 else 0)) hE _ ⟨H.push (rowK eI 3 (nats [i.toNat])), H.n, 0, rowK eI 3 (nats [i.toNat]), [i.toNat], true⟩ ?_ (fun hw0 => ?_) (fun x hx hwx => ?_)
  · exact ⟨⟨Sub.push hwf (.refl _) _, nats_at _ _, by simp, by simp, fun k hk => by rw [List.mem_singleton.1 hk]; exact .refl hin⟩, fun hm => by cases hm⟩
  · rw [hrow0] at hw0 ⊢
    exact .since (by simp only [push_n]; omega) hw0 (.refl _) (by simp [frOk, AV.okR, AV.ok1, AC.okR, AV.ren, AV.ren1, AC.ren, AFrame.get, pl1_old, *]; first | done | rfl | omega)
  · obtain ⟨hok, hcl⟩ := hx
    have hs := hok.sub
    have hbx : x.b < x.H.n := (hwx _ _ hok.row.blk).1
    have hnx : H.n ≤ x.H.n := hs.1.1
    cases hm : x.more
    · have hL := comp_eq hok.up hok.mem hok.rch (hcl hm)
      simp (config := {contextual := true, implicitDefEqProofs := false, maxSteps := 2000000}) [-Int.not_le, -Int.not_lt, argsF, spec_l13Cover_l2, hm]
      rw [← hL] at h
      exact Out.whole hs.1.1 (by simp [frOk, AV.okR, AV.ok1, AC.okR, AV.ren, AV.ren1, AC.ren, AFrame.get, pl1_old, *]; first | done | rfl | omega) fun hw => Stop.go h x.H x.b x.o x.kb hw hs hok.row
    · simp (config := {contextual := true, implicitDefEqProofs := false, maxSteps := 2000000}) [-Int.not_le, -Int.not_lt, argsF, spec_l13Cover_l2, hm]
      refine aloop_heap (X := CvX × Nat) (fun y => [(0, .c (.sl b_ps i_ps ps.length)), (1, .c (.int .i64 (limit))), (7, .c (.sl (y.1.b) (y.1.o) (y.1.L.length))), (8, .c (.bool (y.1.more))), (9, .c (.int .i64 ((y.2 : Int))))]) (fun y => y.1.H) (fun y => y.1.Mid x H (edge ps limit) ps.length i.toNat y.2) (fun y => ps.length - y.2) hE _ (⟨x.H, x.b, x.o, x.kb, x.L, false⟩, 0) ?_ (fun hw0 => ?_) (fun y hy hwy => ?_)
      · exact ⟨⟨hok.sub, hok.row, hok.up, hok.mem, hok.rch⟩, Nat.zero_le _, fun _ => ⟨rfl, fun y _ k hk => absurd hk (Nat.not_lt_zero k)⟩, fun h => (by cases h)⟩
      · exact .since hs.1.1 hw0 (.refl _) (by simp [frOk, AV.okR, AV.ok1, AC.okR, AV.ren, AV.ren1, AC.ren, AFrame.get, pl1_old, *]; first | done | rfl | omega)
      · obtain ⟨y, k⟩ := y
        have hy1 : y.Ok H (edge ps limit) ps.length i.toNat := hy.1
        have hys := hy1.sub
        have hby : y.b < y.H.n := (hwy _ _ hy1.row.blk).1
        have hny : H.n ≤ y.H.n := hys.1.1
        have hkl : k ≤ ps.length := hy.2.1
        have hpy := hat_ps.sub hys
        rcases Nat.lt_or_ge k ps.length with hk | hk
        · have hki : ((k : Int) < (ps.length : Int)) = True := eq_true (by omega)
          simp (config := {contextual := true, implicitDefEqProofs := false, maxSteps := 2000000}) [-Int.not_le, -Int.not_lt, argsF, spec_l13Cover_l1, hki, hpy.blk, hpy.esz, hpy.len]
          refine aloop_heap (X := CvX × Nat) (fun z => [(0, .c (.sl b_ps i_ps ps.length)), (1, .c (.int .i64 (limit))), (7, .c (.sl (z.1.b) (z.1.o) (z.1.L.length))), (8, .c (.bool (z.1.more))), (9, .c (.int .i64 ((k : Int)))), (10, .c (.int .i64 ((z.2 : Int))))]) (fun z => z.1.H) (fun z => z.1.Inn x H (edge ps limit) ps.length i.toNat k z.2) (fun z => if k ∈ z.1.L then 0 else z.1.L.length + 1 - z.2) hE _ (y, 0) ⟨hy, hk, Nat.zero_le _, .inr fun j' _ hlt => absurd hlt (Nat.not_lt_zero _)⟩ (fun hw0 => ?_) (fun z hz hwz => ?_)
          · exact .since hys.1.1 hw0 (.refl _) (by simp [frOk, AV.okR, AV.ok1, AC.okR, AV.ren, AV.ren1, AC.ren, AFrame.get, pl1_old, *]; first | done | rfl | omega)
          · obtain ⟨z, j⟩ := z
            have hz1 : z.Ok H (edge ps limit) ps.length i.toNat := hz.1.1
            have hzs := hz1.sub
            have hbz : z.b < z.H.n := (hwz _ _ hz1.row.blk).1
            have hnz : H.n ≤ z.H.n := hzs.1.1
            have hjl : j ≤ z.L.length := hz.2.2.1
            have hzl := hz1.len
            have hrl := hz1.row.len
            have hre := hz1.row.els
            rw [nats_len] at hrl hre
            have w1 : IntKind.i64.wrap ((j : Int) + 1) = (j : Int) + 1 := wrap_id (by omega) (by omega)
            have w2 : IntKind.i64.wrap ((k : Int) + 1) = (k : Int) + 1 := wrap_id (by omega) (by omega)
            rcases Nat.lt_or_ge j z.L.length with hj | hj
            rotate_left
            · have hji : ((j : Int) < (z.L.length : Int)) = False := eq_false (by omega)
              simp (config := {contextual := true, implicitDefEqProofs := false, maxSteps := 2000000}) [-Int.not_le, -Int.not_lt, argsF, spec_l13Cover_l0, hji, w2]
              exact ⟨fun hw => ⟨(z, k + 1), CvX.next hz (.inl hj), by simp only; omega, .since hzs.1.1 hw (.refl _) (by simp [frOk, AV.okR, AV.ok1, AC.okR, AV.ren, AV.ren1, AC.ren, AFrame.get, pl1_old, *]; first | done | rfl | omega)⟩⟩
            have hji : ((j : Int) < (z.L.length : Int)) = True := eq_true (by omega)
            by_cases hkz : k ∈ z.L
            · have hkc : ((k : Int) ∈ nats z.L) = True := eq_true (nats_mem.2 hkz)
              simp (config := {contextual := true, implicitDefEqProofs := false, maxSteps := 2000000}) [-Int.not_le, -Int.not_lt, argsF, spec_l13Cover_l0, hji, w2, hz1.row.blk, hz1.row.esz, hrl, hre, hkc]
              exact ⟨fun hw => ⟨(z, k + 1), CvX.next hz (.inr hkz), by simp only; omega, .since hzs.1.1 hw (.refl _) (by simp [frOk, AV.okR, AV.ok1, AC.okR, AV.ren, AV.ren1, AC.ren, AFrame.get, pl1_old, *]; first | done | rfl | omega)⟩⟩
            · have hkc : ((k : Int) ∈ nats z.L) = False := eq_false fun h => hkz (nats_mem.1 h)
              have hLj : z.L[j] < ps.length := (hz1.rch _ (List.getElem_mem hj)).lt
              obtain ⟨hp1, hp2⟩ := nats_put hkz
              have hat_ps := hat_ps.sub hzs
              have hwf0 := hwf
              have hwf := hwz
              obtain ⟨ex_u, e_u, hd_u⟩ := hat_ps.get hLj
              obtain ⟨b_u, i_u, k_u, rfl, hat_u, htx_u⟩ := eSi_at hd_u
              have hb_u : b_u < z.H.n := (hwf b_u k_u hat_u.blk).1
              have hne_u : (b_u = z.H.n) = False := eq_false (by omega)
              have hne1_u : ∀ i, (b_u = z.H.n + i) = False := fun i => eq_false (by omega)
              have hne2_u := ne2_of (a := b_u) (b := z.H.n) (by omega)
              obtain ⟨ex_v, e_v, hd_v⟩ := hat_ps.get hk
              obtain ⟨b_v, i_v, k_v, rfl, hat_v, htx_v⟩ := eSi_at hd_v
              have hb_v : b_v < z.H.n := (hwf b_v k_v hat_v.blk).1
              have hne_v : (b_v = z.H.n) = False := eq_false (by omega)
              have hne1_v : ∀ i, (b_v = z.H.n + i) = False := fun i => eq_false (by omega)
              have hne2_v := ne2_of (a := b_v) (b := z.H.n) (by omega)
              have hla := hl2 _ (List.getElem_mem hLj)
              have hlb := hl2 _ (List.getElem_mem hk)
              have er := hz1.row.get (j := j) (by rw [nats_len]; exact hj)
              have en : (nats z.L)[j]'(by rw [nats_len]; exact hj) = (z.L[j] : Int) := by simp [nats]
              rw [en] at er
              have hLi : ((z.L[j] : Int) < (ps.length : Int)) = True := eq_true (by omega)
              have hed : edge ps limit z.L[j] k = decide (limit ≤ evid ps[z.L[j]] ps[k]) := by simp [edge, List.getD_eq_getElem?_getD, hLj, hk]
              by_cases he : limit ≤ evid ps[z.L[j]] ps[k]
              · have he' : edge ps limit z.L[j] k = true := by rw [hed]; exact decide_eq_true he
                simp (config := {contextual := true, implicitDefEqProofs := false, maxSteps := 2000000}) [-Int.not_le, -Int.not_lt, argsF, spec_l13Cover_l0, hji, hj, w1, hz1.row.blk, hz1.row.esz, hrl, hre, hkc, hat_ps.blk, hat_ps.esz, hat_ps.len, hon_ps, hne_ps, hne1_ps, hne2_ps, hki, hk, hLi, hLj, er, e_u, htx_u, hat_u.blk, hat_u.esz, hat_u.len, hat_u.els, hne_u, hne1_u, hne2_u, e_v, htx_v, hat_v.blk, hat_v.esz, hat_v.len, hat_v.els, hne_v, hne1_v, hne2_v, hla, hlb, he, hp1, hp2]
                have hpn : (z.put 3 k).H.n = z.H.n + 1 := rfl
                refine ⟨by omega, ⟨fun hw => ⟨(z.put 3 k, j + 1), CvX.hit hz hwf0 hj hkz he' _, ?_, .since (by simp only [push_n]; omega) hw (.refl _) (by simp [frOk, AV.okR, AV.ok1, AC.okR, AV.ren, AV.ren1, AC.ren, AFrame.get, pl1_old, *]; first | done | rfl | omega)⟩⟩⟩
                show (if k ∈ putN z.L k then 0 else _) < (if k ∈ z.L then 0 else _)
                rw [if_pos (putN_mem.2 (.inr rfl)), if_neg hkz]
                show 0 < z.L.length + 1 - j
                omega
              · have he' : edge ps limit z.L[j] k = false := by rw [hed]; exact decide_eq_false he
                simp (config := {contextual := true, implicitDefEqProofs := false, maxSteps := 2000000}) [-Int.not_le, -Int.not_lt, argsF, spec_l13Cover_l0, hji, hj, w1, hz1.row.blk, hz1.row.esz, hrl, hre, hkc, hat_ps.blk, hat_ps.esz, hat_ps.len, hon_ps, hne_ps, hne1_ps, hne2_ps, hki, hk, hLi, hLj, er, e_u, htx_u, hat_u.blk, hat_u.esz, hat_u.len, hat_u.els, hne_u, hne1_u, hne2_u, e_v, htx_v, hat_v.blk, hat_v.esz, hat_v.len, hat_v.els, hne_v, hne1_v, hne2_v, hla, hlb, he]
                exact ⟨fun hw => ⟨(z, j + 1), CvX.miss hz hj he', by simp only [hkz, if_false]; omega, .since hzs.1.1 hw (.refl _) (by simp [frOk, AV.okR, AV.ok1, AC.okR, AV.ren, AV.ren1, AC.ren, AFrame.get, pl1_old, *]; first | done | rfl | omega)⟩⟩
        · have hke : k = ps.length := by omega
          subst hke
          simp (config := {contextual := true, implicitDefEqProofs := false, maxSteps := 2000000}) [-Int.not_le, -Int.not_lt, argsF, spec_l13Cover_l1]
          obtain ⟨f1, f2⟩ := CvX.fin hy hm
          exact ⟨fun hw => ⟨y, f1, f2, .since hys.1.1 hw (.refl _) (by simp [frOk, AV.okR, AV.ok1, AC.okR, AV.ren, AV.ren1, AC.ren, AFrame.get, pl1_old, *]; first | done | rfl | omega)⟩⟩

end Go.Proofs.YtafenginfojcmaaGreatDoor
