/- The strongest pair. -/
import Derived.Test.YtafenginfojcmaaSiV
set_option maxRecDepth 8000
set_option linter.unusedSimpArgs false
set_option linter.unusedVariables false
namespace Go.Proofs.Ytafenginfojcmaa
open Go Go.RowKit

set_option maxHeartbeats 1000000
theorem siGo_all : ∀ (l : List Si) (o : Option Si), siGo o l = true → ∀ p ∈ l, isSi p = true
  | [], _, _, p, hp => by cases hp
  | x :: r, o, h, p, hp => by
    simp only [siGo, Bool.if_false_right, Bool.and_eq_true, decide_eq_true_eq] at h
    obtain ⟨hx, _, hr⟩ := h
    rcases List.mem_cons.1 hp with rfl | hp
    · exact hx
    · exact siGo_all r _ hr p hp
theorem areSi_b {ps : List Si} (h : areSi ps = true) : ∀ p ∈ ps, 1 ≤ p.id ∧ p.id ≤ 999 ∧ 1840 ≤ p.year ∧ p.year ≤ 2100 ∧ p.traits.length ≤ 8 := fun p hp => by
  unfold areSi at h
  simp only [Bool.and_eq_true] at h
  have h1 := siGo_all ps none h.1 p hp
  unfold isSi inR at h1
  simp only [Bool.and_eq_true, decide_eq_true_eq] at h1
  omega
theorem evid_b {s t : Si} (h1 : s.traits.length ≤ 8) (h2 : t.traits.length ≤ 8) : -99 < evid s t := by
  unfold evid
  split <;> omega
@[simp] theorem si_eta0 (p : Si) : (⟨p.id, p.year, p.town, p.traits⟩ : Si) = p := (rfl)
abbrev SpS := Option (Int × Int × Int)
def spStep (x y : Si) : SpS → SpS
  | none => some (x.id, y.id, evid x y)
  | some t => if t.2.2 < evid x y then some (x.id, y.id, evid x y) else some t
def spIn (x : Si) : List Si → SpS → SpS
  | [], s => s
  | y :: r, s => spIn x r (spStep x y s)
def spOut : List Si → SpS → SpS
  | [], s => s
  | x :: r, s => spOut r (spIn x r s)
theorem spStep_some (x y : Si) (s : SpS) : ∃ t, spStep x y s = some t := by
  cases s with
  | none => exact ⟨_, rfl⟩
  | some t => simp only [spStep]; split <;> exact ⟨_, rfl⟩
theorem spIn_some (x : Si) : ∀ (l : List Si) (t : Int × Int × Int), ∃ t', spIn x l (some t) = some t'
  | [], t => ⟨t, rfl⟩
  | y :: r, t => by
    obtain ⟨t', h⟩ := spStep_some x y (some t)
    rw [spIn, h]
    exact spIn_some x r t'
theorem spOut_some : ∀ (l : List Si) (t : Int × Int × Int), ∃ t', spOut l (some t) = some t'
  | [], t => ⟨t, rfl⟩
  | x :: r, t => by
    obtain ⟨t', h⟩ := spIn_some x r t
    rw [spOut, h]
    exact spOut_some r t'
theorem spOut_two {l : List Si} (h : 2 ≤ l.length) : ∃ t, spOut l none = some t := by
  match l, h with
  | x :: y :: r, _ =>
    rw [spOut, spIn]
    obtain ⟨t, h⟩ := spStep_some x y none
    rw [h]
    obtain ⟨t', h⟩ := spIn_some x r t
    rw [h]
    exact spOut_some _ t'
def spOk (s : SpS) : Prop := ∀ t, s = some t → 0 ≤ t.1
theorem spOk_step {x y : Si} {s : SpS} (hx : 1 ≤ x.id) (h : spOk s) : spOk (spStep x y s) := fun t ht => by
  cases s with
  | none => cases ht; simp only; omega
  | some u =>
    simp only [spStep] at ht
    split at ht
    · cases ht; simp only; omega
    · cases ht; exact h _ rfl
def spRes (ps : List Si) : Int × Int × Int × Bool := if areSi ps = true then if (ps.length : Int) < 2 then (0, 0, 0, false) else match spOut ps none with
  | some t => (t.1, t.2.1, t.2.2, true)
  | none => (0, 0, 0, false) else (0, 0, 0, false)

def q_sp : Con := fun args H K => match args with
  | [ps_v] => eSi.rd H (fun ps => K (.tup [.c (.int .i64 ((spRes ps).1)), .c (.int .i64 ((spRes ps).2.1)), .c (.int .i64 ((spRes ps).2.2.1)), .c (.bool ((spRes ps).2.2.2))]) H) ps_v
  | _ => False
@[simp ↓] theorem q_sp_eq (ps_v : AV) (H : AHeap) (K : AV → AHeap → Prop) : q_sp [ps_v] H K = (eSi.rd H (fun ps => K (.tup [.c (.int .i64 ((spRes ps).1)), .c (.int .i64 ((spRes ps).2.1)), .c (.int .i64 ((spRes ps).2.2.1)), .c (.bool ((spRes ps).2.2.2))]) H) ps_v) := rfl

end Go.Proofs.Ytafenginfojcmaa
