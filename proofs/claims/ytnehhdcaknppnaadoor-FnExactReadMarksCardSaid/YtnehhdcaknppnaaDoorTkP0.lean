/- The laws' helpers: one postmark. -/
import Derived.Test.YtnehhdcaknppnaaDoorPoQ
set_option maxRecDepth 8000
set_option linter.unusedSimpArgs false
set_option linter.unusedVariables false
namespace Go.Proofs.YtnehhdcaknppnaaDoor
open Go Go.RowKit

set_option maxHeartbeats 4000000
/-- a number's text, as the laws write it -/
def mtGo (n : Nat) (out : List UInt8) : List UInt8 := if h : n = 0 then out else mtGo (n / 10) (UInt8.ofNat (48 + n % 10) :: out)
termination_by n
decreasing_by omega
def markT (k : Int) : List UInt8 := 109 :: mtGo k.toNat []
theorem mtGo_0 (out : List UInt8) : mtGo 0 out = out := by rw [mtGo, dif_pos rfl]
theorem mtGo_s {n : Nat} (h : 0 < n) (out : List UInt8) : mtGo n out = mtGo (n / 10) (UInt8.ofNat (48 + n % 10) :: out) := by rw [mtGo, dif_neg (by omega)]
theorem mtGo_len : ∀ (n : Nat) (out : List UInt8), (mtGo n out).length ≤ n + out.length := by
  intro n
  induction n using Nat.strongRecOn with
  | _ n ih =>
    intro out
    rcases Nat.eq_zero_or_pos n with rfl | h
    · rw [mtGo_0]; omega
    · rw [mtGo_s h]
      have := ih (n / 10) (by omega) (UInt8.ofNat (48 + n % 10) :: out)
      simp only [List.length_cons] at this
      omega
theorem markT_len (k : Int) (h0 : 0 ≤ k) (h : k ≤ 1099511627776) : (markT k).length ≤ 9223372036854775807 := by
  have := mtGo_len k.toNat []
  simp only [markT, List.length_cons]
  simp only [List.length_nil] at this
  omega

def q_markText : Con := fun args H K => match args with
  | [.c (.int .i64 k)] => 0 < k ∧ k ≤ 1099511627776 ∧ K (.c (.str (markT k))) H
  | _ => False
@[simp ↓] theorem q_markText_eq (k : Int) (H : AHeap) (K : AV → AHeap → Prop) : q_markText [.c (.int .i64 k)] H K = (0 < k ∧ k ≤ 1099511627776 ∧ K (.c (.str (markT k))) H) := rfl

theorem laws_markText_s : Sound Tryd.prog 78 q_markText := by
  intro args H K h
  unfold q_markText at h
  split at h
  rotate_left
  all_goals first | exact False.elim h | skip
  rename_i k
  have hE := soundE_nil (P := Tryd.prog)
  refine acalls_fn laws_markText_k hE ⟨by simp, fun hwf => ?_⟩
  obtain ⟨hk0, hk1, h⟩ := h
  have hk2 : ¬ k ≤ 0 := by omega
  simp (config := {contextual := true, implicitDefEqProofs := false, maxSteps := 60000}) [-Int.not_le, -Int.not_lt, argsF, laws_markText_c, hk2]
  have hkn : ((k.toNat : Nat) : Int) = k := Int.toNat_of_nonneg (by omega)
  refine aloop_heap (X := Nat × List UInt8) (fun x => [(0, .c (.int .i64 ((x.1 : Int)))), (3, .c (.str (x.2)))]) (fun _ => H) (fun x => mtGo x.1 x.2 = mtGo k.toNat [] ∧ x.1 + x.2.length ≤ k.toNat) (fun x => x.1) hE _ (k.toNat, []) ⟨rfl, by simp⟩ (fun hw0 => by simp only [hkn]; exact .same hwf (by simp [frOk, AV.okR, AV.ok1, AC.okR, AV.ren, AV.ren1, AC.ren, AFrame.get, pl1_old, *]; first | done | omega)) (fun x hx hwx => ?_)
  obtain ⟨n, out⟩ := x
  obtain ⟨hx1, hx2⟩ := hx
  simp only at hx1 hx2
  rcases Nat.eq_zero_or_pos n with rfl | hn
  · have g1 : ¬ (0 : Int) < ((0 : Nat) : Int) := by omega
    have g2 : 1 + out.length ≤ 9223372036854775807 := by omega
    simp (config := {contextual := true, implicitDefEqProofs := false, maxSteps := 2000000}) [-Int.not_le, -Int.not_lt, argsF, laws_markText_l0, g1]
    rw [mtGo_0] at hx1
    rw [markT, ← hx1] at h
    exact ⟨g2, Out.plain (hwf) (.refl _) rfl h⟩
  · have g1 : (0 : Int) < (n : Int) := by omega
    have e1 : (n : Int).tmod 10 = (n : Int) % 10 := Int.tmod_eq_emod_of_nonneg (by omega)
    have e2 : (n : Int).tdiv 10 = (n : Int) / 10 := Int.tdiv_eq_ediv_of_nonneg (by omega)
    have w1 : IntKind.i64.wrap (48 + (n : Int) % 10) = 48 + (n : Int) % 10 := wrap_id (by omega) (by omega)
    have w2 : IntKind.i64.wrap ((n : Int) / 10) = (n : Int) / 10 := wrap_id (by omega) (by omega)
    have w3 : IntKind.u8.wrap (48 + (n : Int) % 10) = 48 + (n : Int) % 10 := by
      have h0 : (2 : Int) ^ 8 = 256 := by decide
      simp only [IntKind.wrap, IntKind.bits, IntKind.signed, h0, Bool.false_and]
      simp
      try omega
    have g2 : 1 + out.length ≤ 9223372036854775807 := by omega
    have hbo : bytesOf [[AC.int IntKind.u8 (48 + (n : Int) % 10)]] = some [UInt8.ofNat (48 + n % 10)] := by
      show some [UInt8.ofNat (48 + (n : Int) % 10).toNat] = _
      have : (48 + (n : Int) % 10).toNat = 48 + n % 10 := by omega
      rw [this]
    simp (config := {contextual := true, implicitDefEqProofs := false, maxSteps := 2000000}) [-Int.not_le, -Int.not_lt, argsF, laws_markText_l0, g1, g2, e1, e2, w1, w2, w3, hbo, hn]
    rw [mtGo_s hn] at hx1
    exact ⟨fun hw => ⟨(n / 10, UInt8.ofNat (48 + n % 10) :: out), ⟨hx1, by simp only [List.length_cons]; omega⟩, by simp only; omega, .drop hwf (by (repeat first | exact Sub.refl _ | refine Sub.push hwf ?_ _ | refine Sub.set hwf ?_ (by first | exact Nat.le_refl _ | omega) _ | refine Sub.kill hwf ?_ (by first | exact Nat.le_refl _ | omega))) (by simp [frOk, AV.okR, AV.ok1, AC.okR, AV.ren, AV.ren1, AC.ren, AFrame.get, pl1_old, *]; first | done | omega)⟩⟩

/-- a postmark that was handed in: its texts are no longer than a text can be -/
structure PoB where
  p : Po
  ok : txP p
def ePoB : Enc PoB where
  n := 6
  cells x := ePo.cells x.p
  dec e := match e with
    | [.int .i64 a, .str t, .int .i64 k, .int .i64 f, .int .i64 l, .str s] => if h : txP ⟨a, t, k, f, l, s⟩ then some ⟨⟨a, t, k, f, l, s⟩, h⟩ else none
    | _ => none
  dc x := by
    obtain ⟨p, h⟩ := x
    cases p
    simp [h]
  cd e p h := by
    split at h
    · split at h
      · cases h; rfl
      · cases h
    · cases h
  len _ := rfl
@[simp] theorem ePoB_n : ePoB.n = 6 := (rfl)
@[simp] theorem ePoB_cells (x : PoB) : ePoB.cells x = [.int .i64 x.p.id, .str x.p.town, .int .i64 x.p.kind, .int .i64 x.p.first, .int .i64 x.p.last, .str x.p.lost] := (rfl)
@[simp] theorem ePoB_dec (x : PoB) : ePoB.dec [.int .i64 x.p.id, .str x.p.town, .int .i64 x.p.kind, .int .i64 x.p.first, .int .i64 x.p.last, .str x.p.lost] = some x := ePoB.dc x
def unB (ps : List PoB) : List Po := ps.map (·.p)
theorem unB_len (ps : List PoB) : (unB ps).length = ps.length := by simp [unB]
theorem unB_ok (ps : List PoB) : ∀ p ∈ unB ps, txP p := fun p hp => by
  obtain ⟨x, _, rfl⟩ := List.mem_map.1 hp
  exact x.ok
@[simp] theorem rowB (t : TypeId) (ps : List PoB) : rowK ePoB t ps = rowK ePo t (unB ps) := by
  simp [rowK, unB]

def q_toPostmark : Con := fun args H K => match args with
  | [.agg p_e] => onv (ePoB.dec p_e) fun p => K (.agg (ePo.cells p.p)) H
  | _ => False
@[simp ↓] theorem q_toPostmark_eq (p_e : List AC) (H : AHeap) (K : AV → AHeap → Prop) : q_toPostmark [.agg p_e] H K = (onv (ePoB.dec p_e) fun p => K (.agg (ePo.cells p.p)) H) := rfl

theorem laws_toPostmark_s : Sound Tryd.prog 17 q_toPostmark := by
  intro args H K h
  unfold q_toPostmark at h
  split at h
  rotate_left
  all_goals first | exact False.elim h | skip
  rename_i p_e
  have h1 := onv_iff.1 h
  clear h
  obtain ⟨p, hd_p, h⟩ := h1
  obtain rfl := ePoB.cd _ _ hd_p
  clear hd_p
  have hE := soundE_nil (P := Tryd.prog)
  refine acalls_fn laws_toPostmark_k hE ⟨by simp, fun hwf => ?_⟩
  simp (config := {contextual := true, implicitDefEqProofs := false, maxSteps := 60000}) [-Int.not_le, -Int.not_lt, argsF, laws_toPostmark_c]
  (refine Out.plain hwf ?_ rfl ?_; (repeat first | exact Sub.refl _ | refine Sub.push hwf ?_ _ | refine Sub.set hwf ?_ (by first | exact Nat.le_refl _ | omega) _ | refine Sub.kill hwf ?_ (by first | exact Nat.le_refl _ | omega))); simpa using h

/-- how many bytes a list may still have -/
def szPo (p : Po) (l : Int) : Int := if l - (p.town.length : Int) < 0 then -1 else if l - (p.town.length : Int) - (p.lost.length : Int) < 0 then -1 else l - (p.town.length : Int) - (p.lost.length : Int)
theorem szPo_le (p : Po) {l : Int} (h : 0 ≤ szPo p l) : szPo p l ≤ l := by
  unfold szPo at *
  split at h
  · omega
  · split at h
    · omega
    · rename_i h1 h2; rw [if_neg h1, if_neg h2]; omega
def szPoGo : List PoB → Int → Int
  | [], l => l
  | x :: r, l => if szPo x.p l < 0 then -1 else szPoGo r (szPo x.p l)
def szPos (ps : List PoB) (l : Int) : Int := if l - (ps.length : Int) < 0 then -1 else szPoGo ps (l - (ps.length : Int))
theorem szPos_ok {ps : List PoB} (h : 0 ≤ szPos ps 1048576) : ps.length ≤ 1048576 := by
  unfold szPos at h
  split at h <;> omega

def q_szPo : Con := fun args H K => match args with
  | [.agg p_e, .c (.int .i64 l)] => onv (ePoB.dec p_e) fun p => 0 ≤ l ∧ l ≤ 1048576 ∧ K (.c (.int .i64 (szPo p.p l))) H
  | _ => False
@[simp ↓] theorem q_szPo_eq (p_e : List AC) (l : Int) (H : AHeap) (K : AV → AHeap → Prop) : q_szPo [.agg p_e, .c (.int .i64 l)] H K = (onv (ePoB.dec p_e) fun p => 0 ≤ l ∧ l ≤ 1048576 ∧ K (.c (.int .i64 (szPo p.p l))) H) := rfl

theorem laws_szPostmark_s : Sound Tryd.prog 15 q_szPo := by
  intro args H K h
  unfold q_szPo at h
  split at h
  rotate_left
  all_goals first | exact False.elim h | skip
  rename_i p_e l
  have h1 := onv_iff.1 h
  clear h
  obtain ⟨p, hd_p, h⟩ := h1
  obtain rfl := ePoB.cd _ _ hd_p
  clear hd_p
  have hE := soundE_nil (P := Tryd.prog)
  refine acalls_fn laws_szPostmark_k hE ⟨by simp, fun hwf => ?_⟩
  obtain ⟨hl1, hl2, h⟩ := h
  have hp1 := p.ok.1
  have hp2 := p.ok.2
  have hw : IntKind.i64.wrap (l - (p.p.town.length : Int)) = l - (p.p.town.length : Int) := wrap_id (by omega) (by omega)
  simp (config := {contextual := true, implicitDefEqProofs := false, maxSteps := 60000}) [-Int.not_le, -Int.not_lt, argsF, laws_szPostmark_c, hw]
  unfold szPo at h
  refine ite_i (fun h1 => ?_) (fun h1 => ?_)
  · rw [if_pos h1] at h; (refine Out.plain hwf ?_ rfl ?_; (repeat first | exact Sub.refl _ | refine Sub.push hwf ?_ _ | refine Sub.set hwf ?_ (by first | exact Nat.le_refl _ | omega) _ | refine Sub.kill hwf ?_ (by first | exact Nat.le_refl _ | omega))); exact h
  · rw [if_neg h1] at h
    have hw2 : IntKind.i64.wrap (l - (p.p.town.length : Int) - (p.p.lost.length : Int)) = l - (p.p.town.length : Int) - (p.p.lost.length : Int) := wrap_id (by have := p.ok.2; omega) (by omega)
    rw [hw2]
    refine ite_i (fun h2 => ?_) (fun h2 => ?_)
    · rw [if_pos h2] at h; (refine Out.plain hwf ?_ rfl ?_; (repeat first | exact Sub.refl _ | refine Sub.push hwf ?_ _ | refine Sub.set hwf ?_ (by first | exact Nat.le_refl _ | omega) _ | refine Sub.kill hwf ?_ (by first | exact Nat.le_refl _ | omega))); exact h
    · rw [if_neg h2] at h; (refine Out.plain hwf ?_ rfl ?_; (repeat first | exact Sub.refl _ | refine Sub.push hwf ?_ _ | refine Sub.set hwf ?_ (by first | exact Nat.le_refl _ | omega) _ | refine Sub.kill hwf ?_ (by first | exact Nat.le_refl _ | omega))); exact h

end Go.Proofs.YtnehhdcaknppnaaDoor
