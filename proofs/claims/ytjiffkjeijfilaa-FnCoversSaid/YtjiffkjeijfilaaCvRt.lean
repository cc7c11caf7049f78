/- Mails: valid timetables; when routes end: plain facts. -/
import Derived.Test.YtjiffkjeijfilaaCoS
set_option maxRecDepth 8000
set_option linter.unusedSimpArgs false
set_option linter.unusedVariables false
namespace Go.Proofs.Ytjiffkjeijfilaa
open Go Go.RowKit

set_option maxHeartbeats 1000000
def isMa (x : Ma) : Bool := inR x.frm 0 9 && (inR x.to 0 9 && (decide (x.frm ≠ x.to) && (inR x.leave 0 (x.arrive - 1) && inR x.arrive 0 9999)))
theorem isMa_b {x : Ma} (h : isMa x = true) : 0 ≤ x.frm ∧ x.frm ≤ 9 ∧ 0 ≤ x.to ∧ x.to ≤ 9 ∧ x.frm ≠ x.to ∧ 0 ≤ x.leave ∧ x.leave < x.arrive ∧ x.arrive ≤ 9999 := by
  simp only [isMa, inR, Bool.and_eq_true, decide_eq_true_eq] at h; omega
def codeMa (x : Ma) : Int := ((x.leave * 10 + x.frm) * 10 + x.to) * 10000 + x.arrive
def maGo : Option Ma → List Ma → Bool
  | _, [] => true
  | o, x :: r => if isMa x = true then (if (match o with | none => true | some p => decide (codeMa p < codeMa x)) = true then maGo (some x) r else false) else false
def areMa (ps : List Ma) : Bool := maGo none ps && decide (ps.length ≤ 20)
theorem areMa_len {ps : List Ma} (h : areMa ps = true) : ps.length ≤ 20 := by
  simp only [areMa, Bool.and_eq_true, decide_eq_true_eq] at h; exact h.2
theorem maGo_at : ∀ {ps : List Ma} {o : Option Ma}, maGo o ps = true → (∀ x ∈ ps, isMa x = true) ∧ ps.Pairwise (fun a b => a.leave ≤ b.leave) ∧ ∀ p, o = some p → isMa p = true → ∀ x ∈ ps, p.leave ≤ x.leave
  | [], _, _ => ⟨by simp, .nil, by simp⟩
  | y :: r, o, h => by
    simp only [maGo] at h
    by_cases h1 : isMa y = true
    rotate_left
    · rw [if_neg h1] at h; cases h
    rw [if_pos h1] at h
    have h2 : (∀ p, o = some p → codeMa p < codeMa y) ∧ maGo (some y) r = true := by
      cases o with
      | none => exact ⟨by simp, by simpa using h⟩
      | some p =>
        simp only [decide_eq_true_eq] at h
        by_cases hc : codeMa p < codeMa y
        · rw [if_pos hc] at h; exact ⟨fun q hq => by cases hq; exact hc, h⟩
        · rw [if_neg hc] at h; cases h
    obtain ⟨g1, g2, g3⟩ := maGo_at h2.2
    have g4 := g3 y rfl h1
    refine ⟨fun x hx => ?_, List.pairwise_cons.2 ⟨g4, g2⟩, fun p hp hpv x hx => ?_⟩
    · rcases List.mem_cons.1 hx with rfl | hx
      · exact h1
      · exact g1 x hx
    · subst hp
      have h3 : codeMa p < codeMa y := h2.1 p rfl
      have b1 := isMa_b hpv
      have b2 := isMa_b h1
      have h4 : p.leave ≤ y.leave := by unfold codeMa at h3; omega
      rcases List.mem_cons.1 hx with rfl | hx
      · exact h4
      · have := g4 x hx; omega
theorem areMa_at {ps : List Ma} (h : areMa ps = true) : (∀ x ∈ ps, isMa x = true) ∧ ps.Pairwise (fun a b => a.leave ≤ b.leave) := by
  simp only [areMa, Bool.and_eq_true] at h
  exact ⟨(maGo_at h.1).1, (maGo_at h.1).2.1⟩
/-- a route within some mails, from an office at a minute -/
inductive Rs (l : List Ma) (s m : Int) : Int → Int → Prop
  | nil : Rs l s m s m
  | snoc {o b : Int} (x : Ma) : Rs l s m o b → x ∈ l → x.frm = o → b ≤ x.leave → Rs l s m x.to x.arrive
theorem Rs.mono {l l' : List Ma} {s m t a : Int} (hl : ∀ x ∈ l, x ∈ l') (h : Rs l s m t a) : Rs l' s m t a := by
  induction h with
  | nil => exact .nil
  | snoc x _ hx h1 h2 ih => exact .snoc x ih (hl x hx) h1 h2
theorem Rs.last {l : List Ma} {x : Ma} {s m t a : Int} (hv : ∀ y ∈ l ++ [x], isMa y = true) (hx : ∀ y ∈ l, y.leave ≤ x.leave) (h : Rs (l ++ [x]) s m t a) : Rs l s m t a ∨ (t = x.to ∧ a = x.arrive ∧ ∃ b, Rs l s m x.frm b ∧ b ≤ x.leave) := by
  induction h with
  | nil => exact .inl .nil
  | @snoc o b y hr hy h1 h2 ih =>
    rcases ih with ih | ⟨rfl, rfl, c, hc, hcl⟩
    · rcases List.mem_append.1 hy with hy | hy
      · exact .inl (.snoc y ih hy h1 h2)
      · rw [List.mem_singleton] at hy
        subst hy
        exact .inr ⟨rfl, rfl, b, by rw [h1]; exact ih, h2⟩
    · exfalso
      have b1 := isMa_b (hv y hy)
      have b2 := isMa_b (hv x (by simp))
      rcases List.mem_append.1 hy with hy | hy
      · have := hx y hy; omega
      · rw [List.mem_singleton] at hy; subst hy; omega
theorem Rs.first {l : List Ma} {s m t a : Int} (h : Rs l s m t a) : (t = s ∧ a = m) ∨ ∃ x ∈ l, x.frm = s ∧ m ≤ x.leave ∧ Rs l x.to x.arrive t a := by
  induction h with
  | nil => exact .inl ⟨rfl, rfl⟩
  | @snoc o b y hr hy h1 h2 ih =>
    rcases ih with ⟨rfl, rfl⟩ | ⟨x, hx, g1, g2, g3⟩
    · exact .inr ⟨y, hy, h1, h2, .nil⟩
    · exact .inr ⟨x, hx, g1, g2, .snoc y g3 hy h1 h2⟩
theorem Rs.cons {l : List Ma} {x : Ma} {s m t a : Int} (hx : x ∈ l) (h1 : x.frm = s) (h2 : m ≤ x.leave) (h : Rs l x.to x.arrive t a) : Rs l s m t a := by
  induction h with
  | nil => exact .snoc x .nil hx h1 h2
  | snoc y _ hy g1 g2 ih => exact .snoc y ih hy g1 g2
theorem Rs.ge {l : List Ma} (hv : ∀ y ∈ l, isMa y = true) {s m t a : Int} (h : Rs l s m t a) : m ≤ a := by
  induction h with
  | nil => exact Int.le_refl _
  | snoc x _ hx _ h2 ih => have := isMa_b (hv x hx); omega
theorem Rs.at {l : List Ma} (hv : ∀ y ∈ l, isMa y = true) {s m t a : Int} (h : Rs l s m t a) : (t = s ∧ a = m) ∨ (m < a ∧ a ≤ 9999 ∧ 0 ≤ t ∧ t ≤ 9) := by
  cases h with
  | nil => exact .inl ⟨rfl, rfl⟩
  | snoc x hr hx _ h2 => have := isMa_b (hv x hx); have := hr.ge hv; exact .inr (by omega)
/-- the least minutes, mail by mail -/
def gN (out : List Int) (o : Int) : Int := out.getD o.toNat 10000
def stepT (out : List Int) (x : Ma) : List Int := if gN out x.frm ≤ x.leave then out.set x.to.toNat (if x.arrive < gN out x.to then x.arrive else gN out x.to) else out
def scanT : List Ma → List Int → List Int
  | [], out => out
  | x :: r, out => scanT r (stepT out x)
def startT (s m : Int) : List Int := (List.replicate 10 10000).set s.toNat m
def tm (ps : List Ma) (s m t : Int) : Int := gN (scanT ps (startT s m)) t
theorem scanT_snoc (x : Ma) : ∀ (l : List Ma) (out : List Int), scanT (l ++ [x]) out = stepT (scanT l out) x
  | [], _ => rfl
  | y :: r, out => by simp only [List.cons_append, scanT]; exact scanT_snoc x r _
theorem stepT_len (out : List Int) (x : Ma) : (stepT out x).length = out.length := by unfold stepT; split <;> simp
theorem scanT_len : ∀ (l : List Ma) (out : List Int), (scanT l out).length = out.length
  | [], _ => rfl
  | x :: r, out => by rw [scanT, scanT_len r, stepT_len]
theorem startT_len (s m : Int) : (startT s m).length = 10 := by simp [startT]
theorem gN_set {out : List Int} (hl : out.length = 10) {i t v : Int} (hi : 0 ≤ i ∧ i ≤ 9) (ht : 0 ≤ t ∧ t ≤ 9) : gN (out.set i.toNat v) t = if t = i then v else gN out t := by
  unfold gN
  simp only [List.getD_eq_getElem?_getD, List.getElem?_set]
  by_cases h : t = i
  · subst h
    rw [if_pos rfl, if_pos rfl, if_pos (by omega)]
    rfl
  · rw [if_neg h, if_neg (by omega)]
theorem gN_start {s m t : Int} (hs : 0 ≤ s ∧ s ≤ 9) (ht : 0 ≤ t ∧ t ≤ 9) : gN (startT s m) t = if t = s then m else 10000 := by
  unfold startT
  rw [gN_set (by simp) hs ht]
  split
  · rfl
  · unfold gN; simp only [List.getD_eq_getElem?_getD, List.getElem?_replicate]; split <;> rfl
theorem gN_step {out : List Int} (hl : out.length = 10) {x : Ma} (hx : isMa x = true) {t : Int} (ht : 0 ≤ t ∧ t ≤ 9) : gN (stepT out x) t = if gN out x.frm ≤ x.leave ∧ t = x.to ∧ x.arrive < gN out x.to then x.arrive else gN out t := by
  have hb := isMa_b hx
  unfold stepT
  by_cases h1 : gN out x.frm ≤ x.leave
  · rw [if_pos h1, gN_set hl (by omega) ht]
    by_cases h2 : t = x.to
    · subst h2
      by_cases h3 : x.arrive < gN out x.to
      · simp [h1, h3]
      · simp [h3]
    · simp [h2]
  · simp [h1]
/-- what the scan finds is the least of all routes -/
theorem scan_ok {s m : Int} (hs : 0 ≤ s ∧ s ≤ 9) (hm : m ≤ 9999) : ∀ (n : Nat) (l : List Ma), l.length = n → (∀ x ∈ l, isMa x = true) → l.Pairwise (fun a b => a.leave ≤ b.leave) →
    (∀ t, 0 ≤ t → t ≤ 9 → gN (scanT l (startT s m)) t ≤ 10000) ∧ (∀ t, 0 ≤ t → t ≤ 9 → gN (scanT l (startT s m)) t ≠ 10000 → Rs l s m t (gN (scanT l (startT s m)) t)) ∧ ∀ t a, Rs l s m t a → gN (scanT l (startT s m)) t ≤ a := by
  intro n
  induction n with
  | zero =>
    intro l hl hv hp
    have e := List.eq_nil_of_length_eq_zero hl
    subst e
    refine ⟨fun t h0 h1 => ?_, fun t h0 h1 h2 => ?_, fun t a h => ?_⟩
    · rw [scanT, gN_start hs ⟨h0, h1⟩]; split <;> omega
    · rw [scanT, gN_start hs ⟨h0, h1⟩] at h2 ⊢
      split
      · rename_i e; subst e; exact .nil
      · rename_i e; rw [if_neg e] at h2; exact absurd rfl h2
    · cases h with
      | nil => rw [scanT, gN_start hs hs, if_pos rfl]; exact Int.le_refl _
      | snoc x _ hx => cases hx
  | succ n ih =>
    intro l hl hv hp
    have hne : l ≠ [] := fun e => by rw [e] at hl; cases hl
    obtain ⟨l', x, rfl⟩ : ∃ l' x, l = l' ++ [x] := ⟨l.dropLast, l.getLast hne, (List.dropLast_concat_getLast hne).symm⟩
    have hl' : l'.length = n := by simpa using hl
    have hv' : ∀ y ∈ l', isMa y = true := fun y hy => hv y (by simp [hy])
    have hpp := List.pairwise_append.1 hp
    have hx := hv x (by simp)
    have hb := isMa_b hx
    have hle : ∀ y ∈ l', y.leave ≤ x.leave := fun y hy => hpp.2.2 y hy x (by simp)
    obtain ⟨i1, i2, i3⟩ := ih l' hl' hv' hpp.1
    have hlen : (scanT l' (startT s m)).length = 10 := by rw [scanT_len, startT_len]
    refine ⟨fun t h0 h1 => ?_, fun t h0 h1 h2 => ?_, fun t a h => ?_⟩
    · rw [scanT_snoc, gN_step hlen hx ⟨h0, h1⟩]
      split
      · omega
      · exact i1 t h0 h1
    · rw [scanT_snoc, gN_step hlen hx ⟨h0, h1⟩] at h2 ⊢
      split
      · rename_i hc
        obtain ⟨c1, c2, c3⟩ := hc
        subst c2
        have r := i2 x.frm (by omega) (by omega) (by omega)
        exact .snoc x (r.mono fun y hy => by simp [hy]) (by simp) rfl c1
      · rename_i hc
        rw [if_neg hc] at h2
        exact (i2 t h0 h1 h2).mono fun y hy => by simp [hy]
    · have ht : 0 ≤ t ∧ t ≤ 9 := by
        rcases h.at hv with ⟨rfl, _⟩ | h4
        · exact hs
        · omega
      rw [scanT_snoc, gN_step hlen hx ht]
      rcases h.last hv hle with h | ⟨rfl, rfl, b, hr, hbl⟩
      · have := i3 t a h
        split
        · rename_i hc; obtain ⟨_, c2, c3⟩ := hc; subst c2; omega
        · exact this
      · have := i3 x.frm b hr
        split
        · exact Int.le_refl _
        · rename_i hc
          have : ¬ x.arrive < gN (scanT l' (startT s m)) x.to := fun h5 => hc ⟨by omega, rfl, h5⟩
          omega
theorem tm_le {ps : List Ma} (hv : areMa ps = true) {s m : Int} (hs : 0 ≤ s ∧ s ≤ 9) (hm : m ≤ 9999) {t : Int} (ht : 0 ≤ t ∧ t ≤ 9) : tm ps s m t ≤ 10000 := (scan_ok hs hm _ ps rfl (areMa_at hv).1 (areMa_at hv).2).1 t ht.1 ht.2
theorem tm_rs {ps : List Ma} (hv : areMa ps = true) {s m : Int} (hs : 0 ≤ s ∧ s ≤ 9) (hm : m ≤ 9999) {t : Int} (ht : 0 ≤ t ∧ t ≤ 9) (h : tm ps s m t ≠ 10000) : Rs ps s m t (tm ps s m t) := (scan_ok hs hm _ ps rfl (areMa_at hv).1 (areMa_at hv).2).2.1 t ht.1 ht.2 h
theorem tm_least {ps : List Ma} (hv : areMa ps = true) {s m : Int} (hs : 0 ≤ s ∧ s ≤ 9) (hm : m ≤ 9999) {t a : Int} (h : Rs ps s m t a) : tm ps s m t ≤ a := (scan_ok hs hm _ ps rfl (areMa_at hv).1 (areMa_at hv).2).2.2 t a h
theorem tm_ge {ps : List Ma} (hv : areMa ps = true) {s m : Int} (hs : 0 ≤ s ∧ s ≤ 9) (hm : m ≤ 9999) {t : Int} (ht : 0 ≤ t ∧ t ≤ 9) : m ≤ tm ps s m t := by
  by_cases h : tm ps s m t = 10000
  · omega
  · exact (tm_rs hv hs hm ht h).ge (areMa_at hv).1
theorem tm_self {ps : List Ma} (hv : areMa ps = true) {s m : Int} (hs : 0 ≤ s ∧ s ≤ 9) (hm : m ≤ 9999) : tm ps s m s = m := by
  have h1 := tm_least hv hs hm (Rs.nil (l := ps) (s := s) (m := m))
  have h2 := tm_ge hv hs hm hs
  omega
/-- the first mail of an earliest route -/
def hitB (ps : List Ma) (s m t e : Int) (x : Ma) : Bool := decide (x.frm = s) && (decide (m ≤ x.leave) && decide (tm ps x.to x.arrive t = e))
theorem hit_ex {ps : List Ma} (hv : areMa ps = true) {s m : Int} (hs : 0 ≤ s ∧ s ≤ 9) (hm : m ≤ 9999) {t e : Int} (ht : 0 ≤ t ∧ t ≤ 9) (he : tm ps s m t = e) (hn : e ≠ 10000) (hne : s ≠ t) : ∃ x ∈ ps, hitB ps s m t e x = true := by
  have hr := tm_rs hv hs hm ht (by rw [he]; exact hn)
  rw [he] at hr
  rcases hr.first with ⟨h1, _⟩ | ⟨x, hx, h1, h2, h3⟩
  · exact absurd h1.symm hne
  · have hb := isMa_b ((areMa_at hv).1 x hx)
    refine ⟨x, hx, ?_⟩
    have l1 := tm_least hv (s := x.to) (m := x.arrive) (by omega) (by omega) h3
    have l2 : e ≤ tm ps x.to x.arrive t := by
      by_cases hq : tm ps x.to x.arrive t = 10000
      · have := tm_le hv hs hm ht; omega
      · have r2 := tm_rs hv (s := x.to) (m := x.arrive) (by omega) (by omega) ht hq
        rw [← he]
        exact tm_least hv hs hm (r2.cons hx h1 h2)
    simp only [hitB, Bool.and_eq_true, decide_eq_true_eq]
    exact ⟨h1, h2, by omega⟩
/-- the first of the earliest routes -/
inductive BR (ps : List Ma) (t e : Int) : Int → Int → List Int → Prop
  | done (m : Int) : BR ps t e t m []
  | step {s m : Int} {i : Nat} {l : List Int} (hne : s ≠ t) (hi : i < ps.length) (hh : hitB ps s m t e ps[i] = true) (hf : ∀ (j : Nat) (hj : j < i), hitB ps s m t e (ps[j]'(Nat.lt_trans hj hi)) = false) : BR ps t e ps[i].to ps[i].arrive l → BR ps t e s m ((i : Int) :: l)
theorem first_hit {p : Ma → Bool} : ∀ {ps : List Ma}, (∃ x ∈ ps, p x = true) → ∃ (i : Nat) (hi : i < ps.length), p ps[i] = true ∧ ∀ (j : Nat) (hj : j < i), p (ps[j]'(Nat.lt_trans hj hi)) = false
  | [], ⟨x, h, _⟩ => by cases h
  | y :: r, ⟨x, hx, hp⟩ => by
    cases hy : p y with
    | true => exact ⟨0, by simp, hy, fun j hj => by omega⟩
    | false =>
      have : ∃ x ∈ r, p x = true := by
        rcases List.mem_cons.1 hx with rfl | hx
        · rw [hy] at hp; cases hp
        · exact ⟨x, hx, hp⟩
      obtain ⟨i, hi, h1, h2⟩ := first_hit this
      refine ⟨i + 1, by simp; exact hi, by simpa using h1, fun j hj => ?_⟩
      cases j with
      | zero => simpa using hy
      | succ j => simpa using h2 j (by omega)
theorem BR_ex {ps : List Ma} (hv : areMa ps = true) {t e : Int} (ht : 0 ≤ t ∧ t ≤ 9) (hn : e ≠ 10000) : ∀ (f : Nat) (s m : Int), (10000 - m).toNat ≤ f → 0 ≤ s ∧ s ≤ 9 → m ≤ 9999 → tm ps s m t = e → ∃ l, BR ps t e s m l ∧ l.length ≤ f := by
  intro f
  induction f with
  | zero => intro s m hf _ hm _; omega
  | succ f ih =>
    intro s m hf hs hm he
    by_cases hst : s = t
    · subst hst; exact ⟨[], .done m, by simp⟩
    obtain ⟨i, hi, h1, h2⟩ := first_hit (hit_ex hv hs hm ht he hn hst)
    have hh := h1
    simp only [hitB, Bool.and_eq_true, decide_eq_true_eq] at hh
    have hb := isMa_b ((areMa_at hv).1 _ (List.getElem_mem hi))
    obtain ⟨l, hl, hll⟩ := ih ps[i].to ps[i].arrive (by omega) (by omega) (by omega) hh.2.2
    exact ⟨_, .step hst hi h1 h2 hl, by simp only [List.length_cons]; omega⟩
theorem BR.inv {ps : List Ma} {t e s m : Int} {l : List Int} (h : BR ps t e s m l) (hne : s ≠ t) : ∃ (i : Nat) (hi : i < ps.length) (r : List Int), l = (i : Int) :: r ∧ hitB ps s m t e ps[i] = true ∧ (∀ (j : Nat) (hj : j < i), hitB ps s m t e (ps[j]'(Nat.lt_trans hj hi)) = false) ∧ BR ps t e ps[i].to ps[i].arrive r := by
  cases h with
  | done => exact absurd rfl hne
  | step h1 hi hh hf hr => exact ⟨_, hi, _, rfl, hh, hf, hr⟩
theorem BR.nil {ps : List Ma} {t e m : Int} {l : List Int} (h : BR ps t e t m l) : l = [] := by
  cases h with
  | done => rfl
  | step h1 => exact absurd rfl h1
theorem BR.mem {ps : List Ma} {t e s m : Int} {l : List Int} (h : BR ps t e s m l) : ∀ i ∈ l, 0 ≤ i ∧ i < (ps.length : Int) := by
  induction h with
  | done => simp
  | step hne hi hh hf hr ih =>
    intro j hj
    rcases List.mem_cons.1 hj with rfl | hj
    · omega
    · exact ih j hj
theorem brL_ex (ps : List Ma) (s m t : Int) : ∃ l : List Int, (areMa ps = true → 0 ≤ t ∧ t ≤ 9 → 0 ≤ s ∧ s ≤ 9 → 0 ≤ m ∧ m ≤ 9999 → tm ps s m t ≠ 10000 → BR ps t (tm ps s m t) s m l) ∧ l.length ≤ 10000 := by
  by_cases h : areMa ps = true ∧ (0 ≤ t ∧ t ≤ 9) ∧ (0 ≤ s ∧ s ≤ 9) ∧ (0 ≤ m ∧ m ≤ 9999) ∧ tm ps s m t ≠ 10000
  · obtain ⟨hv, ht, hs, hm, hn⟩ := h
    obtain ⟨l, hl, hll⟩ := BR_ex hv ht hn (10000 - m).toNat s m (Nat.le_refl _) hs hm.2 rfl
    exact ⟨l, fun _ _ _ _ _ => hl, by omega⟩
  · exact ⟨[], fun h1 h2 h3 h4 h5 => absurd ⟨h1, h2, h3, h4, h5⟩ h, by simp⟩
/-- the route's numbers -/
noncomputable def brL (ps : List Ma) (s m t : Int) : List Int := Classical.choose (brL_ex ps s m t)
theorem brL_len (ps : List Ma) (s m t : Int) : (brL ps s m t).length ≤ 10000 := (Classical.choose_spec (brL_ex ps s m t)).2
theorem brL_ok {ps : List Ma} {s m t : Int} (hv : areMa ps = true) (ht : 0 ≤ t ∧ t ≤ 9) (hs : 0 ≤ s ∧ s ≤ 9) (hm : 0 ≤ m ∧ m ≤ 9999) (hn : tm ps s m t ≠ 10000) : BR ps t (tm ps s m t) s m (brL ps s m t) := (Classical.choose_spec (brL_ex ps s m t)).1 hv ht hs hm hn

end Go.Proofs.Ytjiffkjeijfilaa
