/- The cover that a change makes: plain facts. -/
import Derived.Test.YtjiffkjeijfilaaCoPm
import Derived.Test.YtjiffkjeijfilaaCoU
set_option maxRecDepth 8000
set_option linter.unusedSimpArgs false
set_option linter.unusedVariables false
namespace Go.Proofs.Ytjiffkjeijfilaa
open Go Go.RowKit

set_option maxHeartbeats 1000000
/-- the first hit of a row in order: it depends on what is in it alone -/
theorem fs_spec {f : Int → Option Cv} : ∀ {l : List Int}, l.Pairwise (· ≤ ·) → (l.findSome? f = none ∧ ∀ x ∈ l, f x = none) ∨ ∃ x ∈ l, l.findSome? f = f x ∧ f x ≠ none ∧ ∀ y ∈ l, y < x → f y = none
  | [], _ => .inl ⟨rfl, by simp⟩
  | a :: r, h => by
    rw [List.pairwise_cons] at h
    cases ha : f a with
    | some v => exact .inr ⟨a, by simp, by simp [List.findSome?_cons, ha], by simp [ha], fun y hy hlt => by
        rcases List.mem_cons.1 hy with rfl | hy
        · omega
        · have := h.1 y hy; omega⟩
    | none =>
      rcases fs_spec (f := f) h.2 with ⟨h1, h2⟩ | ⟨x, hx, h1, h2, h3⟩
      · exact .inl ⟨by simp [List.findSome?_cons, ha, h1], fun x hx => by
          rcases List.mem_cons.1 hx with rfl | hx
          · exact ha
          · exact h2 x hx⟩
      · refine .inr ⟨x, by simp [hx], by simp only [List.findSome?_cons, ha, h1], h2, fun y hy hlt => ?_⟩
        rcases List.mem_cons.1 hy with rfl | hy
        · exact ha
        · exact h3 y hy hlt
theorem fs_same {f : Int → Option Cv} {l m : List Int} (hl : l.Pairwise (· ≤ ·)) (hm : m.Pairwise (· ≤ ·)) (h : ∀ x, x ∈ l ↔ x ∈ m) : l.findSome? f = m.findSome? f := by
  rcases fs_spec hl (f := f) with ⟨e1, n1⟩ | ⟨x, hx, e1, v1, n1⟩
  · rcases fs_spec hm (f := f) with ⟨e2, n2⟩ | ⟨y, hy, e2, v2, n2⟩
    · rw [e1, e2]
    · exact absurd (n1 y ((h y).2 hy)) v2
  · rcases fs_spec hm (f := f) with ⟨e2, n2⟩ | ⟨y, hy, e2, v2, n2⟩
    · exact absurd (n2 x ((h x).1 hx)) v1
    · rw [e1, e2]
      rcases Int.lt_trichotomy x y with g | g | g
      · exact absurd (n2 x ((h x).1 hx) g) v1
      · rw [g]
      · exact absurd (n1 y ((h y).2 hy) g) v2
/-- the smaller row has all steps -/
theorem fs_step {f : Int → Option Cv} {l m : List Int} (hl : l.Pairwise (· ≤ ·)) (hm : m.Pairwise (· ≤ ·)) (h1 : (1 : Int) ∈ l) (hsub : ∀ x ∈ l, x ∈ m) (hb : ∀ x ∈ m, 1 ≤ x ∧ x ≤ 2000)
    (hs : ∀ g, 1 < g → g ≤ 2000 → g ∉ l → f g ≠ none → f (g - 1) ≠ none) : l.findSome? f = m.findSome? f := by
  have down : ∀ (n : Nat) (g : Int), g = 1 + (n : Int) → g ≤ 2000 → f g ≠ none → ∃ g' ∈ l, g' ≤ g ∧ f g' ≠ none := by
    intro n
    induction n with
    | zero => intro g hg _ hf; exact ⟨g, by rw [hg]; simpa using h1, Int.le_refl _, hf⟩
    | succ n ih =>
      intro g hg h2 hf
      by_cases hgl : g ∈ l
      · exact ⟨g, hgl, Int.le_refl _, hf⟩
      · obtain ⟨g', h3, h4, h5⟩ := ih (g - 1) (by omega) (by omega) (hs g (by omega) h2 hgl hf)
        exact ⟨g', h3, by omega, h5⟩
  rcases fs_spec hl (f := f) with ⟨e1, n1⟩ | ⟨x, hx, e1, v1, n1⟩
  · rcases fs_spec hm (f := f) with ⟨e2, n2⟩ | ⟨y, hy, e2, v2, n2⟩
    · rw [e1, e2]
    · have := hb y hy
      obtain ⟨g, h3, h4, h5⟩ := down (y - 1).toNat y (by omega) (by omega) v2
      exact absurd (n1 g h3) h5
  · rcases fs_spec hm (f := f) with ⟨e2, n2⟩ | ⟨y, hy, e2, v2, n2⟩
    · exact absurd (n2 x (hsub x hx)) v1
    · have := hb y hy
      obtain ⟨g, h3, h4, h5⟩ := down (y - 1).toNat y (by omega) (by omega) v2
      have hgy : g = y := by
        rcases Int.lt_or_le g y with q | q
        · exact absurd (n2 g (hsub g h3) q) h5
        · omega
      subst hgy
      rw [e1, e2]
      rcases Int.lt_trichotomy x g with q | q | q
      · exact absurd (n2 x (hsub x hx) q) v1
      · rw [q]
      · exact absurd (n1 g h3 q) v2
/-- the numbers of a change -/
def chB (ch one : Int) : Bool := decide ((ch.tdiv one).tmod 2 = 1)
/-- a cover with another day, zone, weight and price -/
def setCv (x : Cv) (d z g c : Int) : Cv := { x with day := d, zone := z, grams := g, paid := c }
/-- the cover of a day, a zone and a weight, if it is explained -/
def hitM (ps : List Ra) (x : Cv) (fr : Bool) (d z g : Int) : Option Cv := if 0 < (forGo d z g ps).1 ∧ (fr = true ∨ (forGo d z g ps).1 = x.paid) then some (setCv x d z g (forGo d z g ps).1) else none
/-- days that rates begin or have ended -/
def raDays : List Ra → List Int
  | [] => []
  | r :: l => (r.frm :: (if r.til < 4000 then [r.til + 1] else [])) ++ raDays l
def raW : List Ra → List Int
  | [] => []
  | r :: l => (if r.grams < 2000 then [r.grams + 1] else []) ++ raW l
def raWz (z : Int) : List Ra → List Int
  | [] => []
  | r :: l => (if r.zone = z ∧ r.grams < 2000 then [r.grams + 1] else []) ++ raWz z l
def daysM (ps : List Ra) (x : Cv) (ch : Int) : List Int := if chB ch 1 = true then putAll (raDays ps) [0] else [x.day]
def zonesM (x : Cv) (ch : Int) : List Int := if chB ch 2 = true then [0, 1, 2, 3, 4, 5, 6, 7, 8, 9] else [x.zone]
def wsM (ps : List Ra) (x : Cv) (ch : Int) : List Int := if chB ch 4 = true then putAll (raW ps) [1] else [x.grams]
def mkM (ps : List Ra) (x : Cv) (ch : Int) : Option Cv := (daysM ps x ch).findSome? fun d => (zonesM x ch).findSome? fun z => (wsM ps x ch).findSome? (hitM ps x (chB ch 8) d z)
def zeroC : Cv := ⟨0, 0, 0, 0, 0, 0, 0, 0, 0⟩
def pairM (o : Option Cv) : Cv × Bool := match o with
  | some y => (y, true)
  | none => (zeroC, false)
theorem putAll_app (a : List Int) : ∀ (b o : List Int), putAll (a ++ b) o = putAll b (putAll a o) := by
  induction a with
  | nil => intro b o; rfl
  | cons x a ih => intro b o; simp only [List.cons_append, putAll]; exact ih b _
theorem raDays_len : ∀ l : List Ra, (raDays l).length ≤ 2 * l.length
  | [] => by simp [raDays]
  | r :: l => by
    have := raDays_len l
    simp only [raDays, List.length_append, List.length_cons]
    split <;> simp <;> omega
theorem raW_len : ∀ l : List Ra, (raW l).length ≤ l.length
  | [] => by simp [raW]
  | r :: l => by
    have := raW_len l
    simp only [raW, List.length_append, List.length_cons]
    split <;> simp <;> omega
theorem raWz_len (z : Int) : ∀ l : List Ra, (raWz z l).length ≤ l.length
  | [] => by simp [raWz]
  | r :: l => by
    have := raWz_len z l
    simp only [raWz, List.length_append, List.length_cons]
    split <;> simp <;> omega
theorem raGo_at : ∀ {ps : List Ra} {o : Option Ra}, raGo o ps = true → ∀ x ∈ ps, isRa x = true
  | [], _, _, _, h => by cases h
  | y :: r, o, h, x, hx => by
    simp only [raGo] at h
    by_cases h1 : isRa y = true
    rotate_left
    · rw [if_neg h1] at h; cases h
    rw [if_pos h1] at h
    have h2 : raGo (some y) r = true := by
      cases hq : raGo (some y) r with
      | true => rfl
      | false => rw [hq] at h; simp at h
    rcases List.mem_cons.1 hx with rfl | hx
    · exact h1
    · exact raGo_at h2 x hx
theorem areRa_at {ps : List Ra} (h : areRa ps = true) : ∀ x ∈ ps, isRa x = true := by
  simp only [areRa, Bool.and_eq_true] at h; exact raGo_at h.1
theorem raW_mem {ps : List Ra} {g : Int} : g ∈ raW ps ↔ ∃ r ∈ ps, r.grams < 2000 ∧ g = r.grams + 1 := by
  induction ps with
  | nil => simp [raW]
  | cons a l ih =>
    simp only [raW, List.mem_append, ih, List.mem_cons, exists_eq_or_imp]
    split
    · rename_i h; simp [h]
    · rename_i h; simp [h]
theorem raWz_mem {z : Int} {ps : List Ra} {g : Int} : g ∈ raWz z ps ↔ ∃ r ∈ ps, r.zone = z ∧ r.grams < 2000 ∧ g = r.grams + 1 := by
  induction ps with
  | nil => simp [raWz]
  | cons a l ih =>
    simp only [raWz, List.mem_append, ih, List.mem_cons, exists_eq_or_imp]
    split
    · rename_i h; simp [h]
    · rename_i h
      have : ¬ (a.zone = z ∧ a.grams < 2000 ∧ g = a.grams + 1) := fun e => h ⟨e.1, e.2.1⟩
      simp [this]
theorem forGo_step {d z g : Int} : ∀ {ps : List Ra}, (∀ r ∈ ps, r.zone = z → r.grams ≠ g - 1) → forGo d z (g - 1) ps = forGo d z g ps
  | [], _ => rfl
  | a :: l, h => by
    have e : hitRa d z (g - 1) a = hitRa d z g a := by
      by_cases hz : a.zone = z
      · have := h a (by simp) hz
        simp only [hitRa]
        congr 2
        rw [decide_eq_decide]
        omega
      · simp [hitRa, hz]
    simp only [forGo, e]
    rw [forGo_step fun r hr => h r (by simp [hr])]
theorem forGo_pos (d z g : Int) : ∀ {ps : List Ra}, (∀ r ∈ ps, isRa r = true) → ((forGo d z g ps).2 = true ↔ 0 < (forGo d z g ps).1)
  | [], _ => by simp [forGo]
  | a :: l, h => by
    have := isRa_b (h a (by simp))
    simp only [forGo]
    split
    · simp; omega
    · exact forGo_pos d z g fun r hr => h r (by simp [hr])
/-- impl's weights of a zone do as all weights do -/
theorem ws_same {ps : List Ra} (hv : areRa ps = true) (x : Cv) (fr : Bool) (d z : Int) : (sortI (1 :: raWz z ps)).findSome? (hitM ps x fr d z) = (putAll (raW ps) [1]).findSome? (hitM ps x fr d z) := by
  have hat := areRa_at hv
  obtain ⟨u1, u2⟩ := putAll_up (raW ps) (o := [1]) (by simp)
  refine fs_step (sortI_up _) (u1.imp fun {a b} h => by omega) ((sortI_mem _ _).2 (by simp)) (fun g hg => ?_) (fun g hg => ?_) (fun g h1 h2 hg hf => ?_)
  · rw [sortI_mem, List.mem_cons, raWz_mem] at hg
    rw [u2, List.mem_singleton, raW_mem]
    rcases hg with hg | ⟨r, hr, _, h3, h4⟩
    · exact .inl hg
    · exact .inr ⟨r, hr, h3, h4⟩
  · rw [u2, List.mem_singleton, raW_mem] at hg
    rcases hg with hg | ⟨r, hr, h3, h4⟩
    · omega
    · have := isRa_b (hat r hr); omega
  · have hno : ∀ r ∈ ps, r.zone = z → r.grams ≠ g - 1 := fun r hr hz e => hg (by
      rw [sortI_mem, List.mem_cons, raWz_mem]
      exact .inr ⟨r, hr, hz, by omega, by omega⟩)
    unfold hitM at hf ⊢
    rw [forGo_step hno]
    split
    · simp
    · rename_i hc; rw [if_neg hc] at hf; exact absurd rfl hf
/-- impl's rows -/
def daysI (ps : List Ra) (x : Cv) (ch : Int) : List Int := if chB ch 1 = true then sortI (0 :: raDays ps) else [x.day]
def wsI (ps : List Ra) (x : Cv) (ch z : Int) : List Int := if chB ch 4 = true then sortI (1 :: raWz z ps) else [x.grams]
theorem mk_same {ps : List Ra} (hv : areRa ps = true) (x : Cv) (ch : Int) : ((daysI ps x ch).findSome? fun d => (zonesM x ch).findSome? fun z => (wsI ps x ch z).findSome? (hitM ps x (chB ch 8) d z)) = mkM ps x ch := by
  have e : (fun d => (zonesM x ch).findSome? fun z => (wsI ps x ch z).findSome? (hitM ps x (chB ch 8) d z)) = fun d => (zonesM x ch).findSome? fun z => (wsM ps x ch).findSome? (hitM ps x (chB ch 8) d z) := by
    funext d
    congr 1
    funext z
    unfold wsI wsM
    split
    · exact ws_same hv x _ d z
    · rfl
  rw [e]
  unfold mkM daysI daysM
  split
  · obtain ⟨u1, u2⟩ := putAll_up (raDays ps) (o := [0]) (by simp)
    refine fs_same (sortI_up _) (u1.imp fun {a b} h => by omega) fun g => ?_
    rw [sortI_mem, u2, List.mem_cons, List.mem_singleton]
  · rfl

end Go.Proofs.Ytjiffkjeijfilaa
