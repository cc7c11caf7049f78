/- The cursor that the draws read. -/
import Derived.Test.YtjiffkjeijfilaaCoQ
import Derived.Test.YtjiffkjeijfilaaCoF
set_option maxRecDepth 8000
set_option linter.unusedSimpArgs false
set_option linter.unusedVariables false
namespace Go.Proofs.Ytjiffkjeijfilaa
open Go Go.RowKit

set_option maxHeartbeats 2000000
/-- the cursor: its bytes, how far it has read, its seed -/
def curK (b i n : Nat) (a s : Int) : ABlk := ⟨88, 3, false, false, [[.sl b i n, .int .i64 a, .int .u64 s]]⟩
def curOf (k : ABlk) : Option (Nat × Nat × Nat × Int × Int) := if k.ty = 88 ∧ k.esz = 3 ∧ k.ro = false ∧ k.fz = false then (match k.els with
  | [[.sl b i n, .int .i64 a, .int .u64 s]] => some (b, i, n, a, s)
  | _ => none) else none
theorem curOf_eq {k : ABlk} {b i n : Nat} {a s : Int} (h : curOf k = some (b, i, n, a, s)) : k = curK b i n a s := by
  unfold curOf at h
  split at h
  · rename_i hc
    split at h
    · rename_i he
      cases k
      cases h
      obtain ⟨h1, h2, h3, h4⟩ := hc
      simp only at h1 h2 h3 h4 he
      subst h1 h2 h3 h4 he
      rfl
    · cases h
  · cases h
@[simp] theorem curOf_K (b i n : Nat) (a s : Int) : curOf (curK b i n a s) = some (b, i, n, a, s) := rfl
theorem curOf_lit (b i n : Nat) (a s : Int) : curOf ⟨88, 3, false, false, [[.sl b i n, .int .i64 a, .int .u64 s]]⟩ = some (b, i, n, a, s) := rfl
@[simp] theorem curK_els (b i n : Nat) (a s : Int) : (curK b i n a s).els = [[.sl b i n, .int .i64 a, .int .u64 s]] := rfl
@[simp] theorem curK_esz (b i n : Nat) (a s : Int) : (curK b i n a s).esz = 3 := rfl
@[simp] theorem curK_ty (b i n : Nat) (a s : Int) : (curK b i n a s).ty = 88 := rfl
@[simp] theorem curK_ro (b i n : Nat) (a s : Int) : (curK b i n a s).ro = false := rfl
@[simp] theorem curK_fz (b i n : Nat) (a s : Int) : (curK b i n a s).fz = false := rfl
/-- bytes in a row -/
def eU : Enc UInt8 where
  n := 1
  cells x := [.int .u8 x.toNat]
  dec e := match e with
    | [.int .u8 a] => if 0 ≤ a ∧ a < 256 then some (UInt8.ofNat a.toNat) else none
    | _ => none
  dc x := by
    have h : (0 : Int) ≤ x.toNat ∧ (x.toNat : Int) < 256 := ⟨by omega, by have := x.toNat_lt; omega⟩
    simp only [h, and_self, if_true, Int.toNat_natCast, UInt8.ofNat_toNat]
  cd e p h := by
    split at h
    · rename_i a
      split at h
      · rename_i hc
        cases h
        have : ((UInt8.ofNat a.toNat).toNat : Int) = a := by
          rw [UInt8.toNat_ofNat_of_lt' (by have : UInt8.size = 256 := rfl; omega)]
          omega
        rw [this]
      · cases h
    · cases h
  len _ := rfl
@[simp] theorem eU_n : eU.n = 1 := (rfl)
@[simp] theorem eU_cells (x : UInt8) : eU.cells x = [.int .u8 x.toNat] := (rfl)
/-- what a draw may do with the cursor at c, from 0 ≤ a on in at most m steps -/
def CurAt (H : AHeap) (c b i n : Nat) (a s : Int) : Prop := H.b c = some (curK b i n a s) ∧ c ≠ b ∧ 0 ≤ a ∧ onv (H.b b) fun k => k.esz = 1 ∧ i + n ≤ k.els.length ∧ onv (eU.decL ((k.els.drop i).take n)) fun _ => True
/-- the cursor's contract: K stands for what follows -/
def onCur (H : AHeap) (c : Nat) (lim : Int) (K : Nat → Nat → Nat → Int → Int → Prop) : Prop := onv (H.b c) fun k => onv (curOf k) fun x => c ≠ x.1 ∧ 0 ≤ x.2.2.2.1 ∧ x.2.2.2.1 ≤ lim ∧ (onv (H.b x.1) fun k => k.esz = 1 ∧ x.2.1 + x.2.2.1 ≤ k.els.length ∧ onv (eU.decL ((k.els.drop x.2.1).take x.2.2.1)) fun _ => True) ∧ K x.1 x.2.1 x.2.2.1 x.2.2.2.1 x.2.2.2.2
theorem onCur_iff {H : AHeap} {c : Nat} {lim : Int} {K : Nat → Nat → Nat → Int → Int → Prop} : onCur H c lim K ↔ ∃ (b i n : Nat) (a s : Int) (k : ABlk) (l : List UInt8), H.b c = some (curK b i n a s) ∧ c ≠ b ∧ 0 ≤ a ∧ a ≤ lim ∧ eU.At H b i k l ∧ l.length = n ∧ K b i n a s := by
  constructor
  · intro h
    obtain ⟨k, hk, h⟩ := onv_iff.1 h
    obtain ⟨⟨b, i, n, a, s⟩, hx, h1, h2, h3, h4, h5⟩ := onv_iff.1 h
    obtain rfl := curOf_eq hx
    obtain ⟨kb, hkb, e1, e2, h4⟩ := onv_iff.1 h4
    obtain ⟨l, hl, _⟩ := onv_iff.1 h4
    have e3 := Enc.decL_eq eU hl
    have e4 := congrArg List.length e3
    simp only [List.length_take, List.length_drop, List.length_map] at e4
    have e5 : l.length = n := by simp only at e2 e4; omega
    simp only at e2 e3
    exact ⟨b, i, n, a, s, kb, l, hk, h1, h2, h3, ⟨hkb, e1, by omega, by rw [e5]; exact e3⟩, e5, h5⟩
  · rintro ⟨b, i, n, a, s, k, l, hk, h1, h2, h3, hat, rfl, h5⟩
    refine onv_iff.2 ⟨_, hk, onv_iff.2 ⟨_, curOf_K b i l.length a s, h1, h2, h3, onv_iff.2 ⟨k, hat.blk, hat.esz, hat.len, onv_iff.2 ⟨l, ?_, trivial⟩⟩, h5⟩⟩
    have := hat.els
    simp only
    rw [this]
    exact Enc.decL_map eU l
theorem dlI (x : Int) (L : List (List AC)) : eI.decL ([.int .i64 x] :: L) = (eI.decL L).map (x :: ·) := by
  simp only [Enc.decL, eI_dec]; cases eI.decL L <;> rfl
theorem dlT (x : List UInt8) (L : List (List AC)) : eT.decL ([.str x] :: L) = (eT.decL L).map (x :: ·) := by
  simp only [Enc.decL, eT_dec]; cases eT.decL L <;> rfl
theorem wrapU (n : Int) : 0 ≤ IntKind.u64.wrap n ∧ IntKind.u64.wrap n < 18446744073709551616 := by
  have h0 : (2 : Int) ^ 64 = 18446744073709551616 := by decide
  simp only [IntKind.wrap, IntKind.bits, IntKind.signed, h0, Bool.false_and]
  exact ⟨Int.emod_nonneg _ (by omega), Int.emod_lt_of_pos _ (by omega)⟩

theorem cur_wf {H : AHeap} (hwf : H.WF) {c b i n : Nat} {a s : Int} (h : H.b c = some (curK b i n a s)) (a' s' : Int) : (H.set c (curK b i n a' s')).WF := WF.set hwf h (fun e he x hx => by
  have h1 := (hwf c _ h).2.1 [.sl b i n, .int .i64 a, .int .u64 s] (by simp [curK])
  simp only [curK_els, List.mem_singleton] at he
  subst he
  rcases List.mem_cons.1 hx with rfl | hx
  · exact h1 _ (by simp)
  · rcases List.mem_cons.1 hx with rfl | hx
    · trivial
    · rw [List.mem_singleton.1 hx]; trivial) (by simp)
theorem cur_self {H : AHeap} {c b i n : Nat} {a s : Int} (h : H.b c = some (curK b i n a s)) : H.set c (curK b i n a s) = H := set_self h
/-- what stands below stays, but for the cursor -/
theorem cur_sub {H : AHeap} (hwf : H.WF) {c b i n : Nat} {a s : Int} (h : H.b c = some (curK b i n a s)) {a' s' : Int} {F : AHeap} (hn : H.n ≤ F.n) (hI : F.I = H.I) (hc : F.b c = some (curK b i n a' s')) (ho : ∀ j, j < H.n → j ≠ c → F.b j = H.b j) : Sub (H.set c (curK b i n a' s')) F := ⟨⟨by simpa using hn, fun j k hj => by
  rw [set_b] at hj
  split at hj
  · rename_i e; subst e; rw [hc]; exact hj
  · rename_i e; rw [ho j (hwf j k hj).1 e]; exact hj⟩, by simpa using hI.symm⟩
theorem wrapU_idC {n : Int} (h1 : 0 ≤ n) (h2 : n < 18446744073709551616) : IntKind.u64.wrap n = n := by
  have h0 : (2 : Int) ^ 64 = 18446744073709551616 := by decide
  simp only [IntKind.wrap, IntKind.bits, IntKind.signed, h0, Bool.false_and]
  simp
  omega
theorem and255 (v : BitVec 64) : (v &&& BitVec.ofInt 64 255).toNat < 256 := by
  have h : (BitVec.ofInt 64 255).toNat = 255 := by decide
  rw [BitVec.toNat_and, h]
  have := Nat.and_le_right (n := v.toNat) (m := 255)
  omega
@[simp] theorem pl1_set (H : AHeap) (i : Nat) (k : ABlk) (c : Option Nat) : pl1 (H.set i k) c = pl1 H c := rfl
/-- a cursor made anew: it draws, and is forgotten -/
theorem new_sub {H F : AHeap} (hwf : H.WF) (hn : H.n ≤ F.n) (hI : F.I = H.I) (ho : ∀ j, j < H.n → F.b j = H.b j) : Sub H F := ⟨⟨hn, fun j k hj => by rw [ho j (hwf j k hj).1]; exact hj⟩, hI.symm⟩
theorem b256 (b : UInt8) : (b.toNat : Int) < 256 := by have := b.toNat_lt; omega

def q_cnext : Con := fun args H K => match args with
  | [.c (.ptr c_p 0 0)] => onCur H c_p 1000000000 fun b_c i_c n_c a_c s_c => ∀ (x : Nat) (s' : Int), x < 256 → K (.c (.int .i64 ((x : Int)))) (H.set c_p (curK b_c i_c n_c (a_c + 1) s'))
  | _ => False
@[simp ↓] theorem q_cnext_eq (c_p : Nat) (H : AHeap) (K : AV → AHeap → Prop) : q_cnext [.c (.ptr c_p 0 0)] H K = (onCur H c_p 1000000000 fun b_c i_c n_c a_c s_c => ∀ (x : Nat) (s' : Int), x < 256 → K (.c (.int .i64 ((x : Int)))) (H.set c_p (curK b_c i_c n_c (a_c + 1) s'))) := rfl

theorem spec_l1Cur__next_s : Sound Try.prog 144 q_cnext := by
  intro args H K h
  unfold q_cnext at h
  split at h
  rotate_left
  all_goals first | exact False.elim h | skip
  rename_i c_p
  have h1 := onCur_iff.1 h
  clear h
  obtain ⟨b_c, i_c, n_c, a_c, s_c, k_c, l_c, hk_c, hcb_c, h0_c, hlim_c, hat_c, rfl, h⟩ := h1
  have hE := soundE_nil (P := Try.prog)
  refine acalls_fn __spec_l1Cur__next_k hE ⟨by simp, fun hwf => ?_⟩
  have hb_c : b_c < H.n := (hwf b_c k_c hat_c.blk).1
  have hp_c : c_p < H.n := (hwf c_p _ hk_c).1
  have hbc_c : (b_c = c_p) = False := eq_false (Ne.symm hcb_c)
  have hbd_c : (c_p = b_c) = False := eq_false hcb_c
  have hne_c : (b_c = H.n) = False := eq_false (by omega)
  have hnp_c : (c_p = H.n) = False := eq_false (by omega)
  have hne1_c : ∀ i, (b_c = H.n + i) = False := fun i => eq_false (by omega)
  have hnp1_c : ∀ i, (c_p = H.n + i) = False := fun i => eq_false (by omega)
  have hne2_c : (b_c = H.n + 1 + 1) = False ∧ (b_c = H.n + 1 + 1 + 1) = False ∧ (b_c = H.n + 1 + 1 + 1 + 1) = False ∧ (b_c = H.n + 1 + 1 + 1 + 1 + 1) = False ∧ (b_c = H.n + 1 + 1 + 1 + 1 + 1 + 1) = False ∧ (b_c = H.n + 1 + 1 + 1 + 1 + 1 + 1 + 1) = False ∧ (b_c = H.n + 1 + 1 + 1 + 1 + 1 + 1 + 1 + 1) = False ∧ (b_c = H.n + 1 + 1 + 1 + 1 + 1 + 1 + 1 + 1 + 1) = False ∧ (b_c = H.n + 1 + 1 + 1 + 1 + 1 + 1 + 1 + 1 + 1 + 1) = False ∧ (b_c = H.n + 1 + 1 + 1 + 1 + 1 + 1 + 1 + 1 + 1 + 1 + 1) = False ∧ (b_c = H.n + 1 + 1 + 1 + 1 + 1 + 1 + 1 + 1 + 1 + 1 + 1 + 1) = False := ⟨eq_false (by omega), eq_false (by omega), eq_false (by omega), eq_false (by omega), eq_false (by omega), eq_false (by omega), eq_false (by omega), eq_false (by omega), eq_false (by omega), eq_false (by omega), eq_false (by omega)⟩
  have hne2_cp : (c_p = H.n + 1 + 1) = False ∧ (c_p = H.n + 1 + 1 + 1) = False ∧ (c_p = H.n + 1 + 1 + 1 + 1) = False ∧ (c_p = H.n + 1 + 1 + 1 + 1 + 1) = False ∧ (c_p = H.n + 1 + 1 + 1 + 1 + 1 + 1) = False ∧ (c_p = H.n + 1 + 1 + 1 + 1 + 1 + 1 + 1) = False ∧ (c_p = H.n + 1 + 1 + 1 + 1 + 1 + 1 + 1 + 1) = False ∧ (c_p = H.n + 1 + 1 + 1 + 1 + 1 + 1 + 1 + 1 + 1) = False ∧ (c_p = H.n + 1 + 1 + 1 + 1 + 1 + 1 + 1 + 1 + 1 + 1) = False ∧ (c_p = H.n + 1 + 1 + 1 + 1 + 1 + 1 + 1 + 1 + 1 + 1 + 1) = False ∧ (c_p = H.n + 1 + 1 + 1 + 1 + 1 + 1 + 1 + 1 + 1 + 1 + 1 + 1) = False := ⟨eq_false (by omega), eq_false (by omega), eq_false (by omega), eq_false (by omega), eq_false (by omega), eq_false (by omega), eq_false (by omega), eq_false (by omega), eq_false (by omega), eq_false (by omega), eq_false (by omega)⟩
  have hnq_c : (H.n = c_p) = False := eq_false (by omega)
  have hnq1_c : ∀ i, (H.n + i = c_p) = False := fun i => eq_false (by omega)
  have hnb_c : (H.n = b_c) = False := eq_false (by omega)
  have hnb1_c : ∀ i, (H.n + i = b_c) = False := fun i => eq_false (by omega)
  have hnr2_cp : (H.n + 1 + 1 = c_p) = False ∧ (H.n + 1 + 1 + 1 = c_p) = False ∧ (H.n + 1 + 1 + 1 + 1 = c_p) = False ∧ (H.n + 1 + 1 + 1 + 1 + 1 = c_p) = False ∧ (H.n + 1 + 1 + 1 + 1 + 1 + 1 = c_p) = False ∧ (H.n + 1 + 1 + 1 + 1 + 1 + 1 + 1 = c_p) = False ∧ (H.n + 1 + 1 + 1 + 1 + 1 + 1 + 1 + 1 = c_p) = False ∧ (H.n + 1 + 1 + 1 + 1 + 1 + 1 + 1 + 1 + 1 = c_p) = False ∧ (H.n + 1 + 1 + 1 + 1 + 1 + 1 + 1 + 1 + 1 + 1 = c_p) = False ∧ (H.n + 1 + 1 + 1 + 1 + 1 + 1 + 1 + 1 + 1 + 1 + 1 = c_p) = False ∧ (H.n + 1 + 1 + 1 + 1 + 1 + 1 + 1 + 1 + 1 + 1 + 1 + 1 = c_p) = False := ⟨eq_false (by omega), eq_false (by omega), eq_false (by omega), eq_false (by omega), eq_false (by omega), eq_false (by omega), eq_false (by omega), eq_false (by omega), eq_false (by omega), eq_false (by omega), eq_false (by omega)⟩
  have hnr2_c : (H.n + 1 + 1 = b_c) = False ∧ (H.n + 1 + 1 + 1 = b_c) = False ∧ (H.n + 1 + 1 + 1 + 1 = b_c) = False ∧ (H.n + 1 + 1 + 1 + 1 + 1 = b_c) = False ∧ (H.n + 1 + 1 + 1 + 1 + 1 + 1 = b_c) = False ∧ (H.n + 1 + 1 + 1 + 1 + 1 + 1 + 1 = b_c) = False ∧ (H.n + 1 + 1 + 1 + 1 + 1 + 1 + 1 + 1 = b_c) = False ∧ (H.n + 1 + 1 + 1 + 1 + 1 + 1 + 1 + 1 + 1 = b_c) = False ∧ (H.n + 1 + 1 + 1 + 1 + 1 + 1 + 1 + 1 + 1 + 1 = b_c) = False ∧ (H.n + 1 + 1 + 1 + 1 + 1 + 1 + 1 + 1 + 1 + 1 + 1 = b_c) = False ∧ (H.n + 1 + 1 + 1 + 1 + 1 + 1 + 1 + 1 + 1 + 1 + 1 + 1 = b_c) = False := ⟨eq_false (by omega), eq_false (by omega), eq_false (by omega), eq_false (by omega), eq_false (by omega), eq_false (by omega), eq_false (by omega), eq_false (by omega), eq_false (by omega), eq_false (by omega), eq_false (by omega)⟩
  have hmx_c : l_c.length ≤ 9223372036854775807 := by have h1 := (hwf b_c k_c hat_c.blk).2.2; have h2 := hat_c.len; omega
  have w1 : IntKind.i64.wrap (a_c + 1) = a_c + 1 := wrap_id (by omega) (by omega)
  by_cases hlt : a_c < (l_c.length : Int)
  · have hlt2 : a_c.toNat < l_c.length := by omega
    have eg := hat_c.get hlt2
    rw [eU_cells] at eg
    have hx := b256 l_c[a_c.toNat]
    have w2 : IntKind.i64.wrap (l_c[a_c.toNat].toNat : Int) = (l_c[a_c.toNat].toNat : Int) := wrap_id (by omega) (by omega)
    have g1 : a_c + 1 ≤ (l_c.length : Int) := by omega
    simp (config := {contextual := true, implicitDefEqProofs := false, maxSteps := 2000000}) [-Int.not_le, -Int.not_lt, argsF, __spec_l1Cur__next_c, onCur, dlI, dlT, hk_c, hcb_c, hbc_c, hbd_c, h0_c, hlim_c, hat_c.blk, hat_c.esz, hat_c.len, hat_c.els, hne_c, hnp_c, hne1_c, hnp1_c, hnq_c, hnq1_c, hnb_c, hnb1_c, hne2_c.1, hne2_c.2.1, hne2_c.2.2.1, hne2_c.2.2.2.1, hne2_c.2.2.2.2.1, hne2_c.2.2.2.2.2.1, hne2_c.2.2.2.2.2.2.1, hne2_c.2.2.2.2.2.2.2.1, hne2_c.2.2.2.2.2.2.2.2.1, hne2_c.2.2.2.2.2.2.2.2.2.1, hne2_c.2.2.2.2.2.2.2.2.2.2, hne2_cp.1, hne2_cp.2.1, hne2_cp.2.2.1, hne2_cp.2.2.2.1, hne2_cp.2.2.2.2.1, hne2_cp.2.2.2.2.2.1, hne2_cp.2.2.2.2.2.2.1, hne2_cp.2.2.2.2.2.2.2.1, hne2_cp.2.2.2.2.2.2.2.2.1, hne2_cp.2.2.2.2.2.2.2.2.2.1, hne2_cp.2.2.2.2.2.2.2.2.2.2, hnr2_c.1, hnr2_c.2.1, hnr2_c.2.2.1, hnr2_c.2.2.2.1, hnr2_c.2.2.2.2.1, hnr2_c.2.2.2.2.2.1, hnr2_c.2.2.2.2.2.2.1, hnr2_c.2.2.2.2.2.2.2.1, hnr2_c.2.2.2.2.2.2.2.2.1, hnr2_c.2.2.2.2.2.2.2.2.2.1, hnr2_c.2.2.2.2.2.2.2.2.2.2, hnr2_cp.1, hnr2_cp.2.1, hnr2_cp.2.2.1, hnr2_cp.2.2.2.1, hnr2_cp.2.2.2.2.1, hnr2_cp.2.2.2.2.2.1, hnr2_cp.2.2.2.2.2.2.1, hnr2_cp.2.2.2.2.2.2.2.1, hnr2_cp.2.2.2.2.2.2.2.2.1, hnr2_cp.2.2.2.2.2.2.2.2.2.1, hnr2_cp.2.2.2.2.2.2.2.2.2.2, w1, hlt, hlt2, eg, w2, g1]
    exact .old (H := H.set c_p _) (cur_wf hwf hk_c _ _) (.refl _) (by simp [frOk, AV.okR, AV.ok1, AC.okR, AV.ren, AV.ren1, AC.ren, AFrame.get, pl1_old, *]; first | done | rfl | omega) (h l_c[a_c.toNat].toNat _ (by omega))
  · have g1 : ¬ a_c + 1 ≤ (l_c.length : Int) := by omega
    simp (config := {contextual := true, implicitDefEqProofs := false, maxSteps := 2000000}) [-Int.not_le, -Int.not_lt, argsF, __spec_l1Cur__next_c, onCur, dlI, dlT, hk_c, hcb_c, hbc_c, hbd_c, h0_c, hlim_c, hat_c.blk, hat_c.esz, hat_c.len, hat_c.els, hne_c, hnp_c, hne1_c, hnp1_c, hnq_c, hnq1_c, hnb_c, hnb1_c, hne2_c.1, hne2_c.2.1, hne2_c.2.2.1, hne2_c.2.2.2.1, hne2_c.2.2.2.2.1, hne2_c.2.2.2.2.2.1, hne2_c.2.2.2.2.2.2.1, hne2_c.2.2.2.2.2.2.2.1, hne2_c.2.2.2.2.2.2.2.2.1, hne2_c.2.2.2.2.2.2.2.2.2.1, hne2_c.2.2.2.2.2.2.2.2.2.2, hne2_cp.1, hne2_cp.2.1, hne2_cp.2.2.1, hne2_cp.2.2.2.1, hne2_cp.2.2.2.2.1, hne2_cp.2.2.2.2.2.1, hne2_cp.2.2.2.2.2.2.1, hne2_cp.2.2.2.2.2.2.2.1, hne2_cp.2.2.2.2.2.2.2.2.1, hne2_cp.2.2.2.2.2.2.2.2.2.1, hne2_cp.2.2.2.2.2.2.2.2.2.2, hnr2_c.1, hnr2_c.2.1, hnr2_c.2.2.1, hnr2_c.2.2.2.1, hnr2_c.2.2.2.2.1, hnr2_c.2.2.2.2.2.1, hnr2_c.2.2.2.2.2.2.1, hnr2_c.2.2.2.2.2.2.2.1, hnr2_c.2.2.2.2.2.2.2.2.1, hnr2_c.2.2.2.2.2.2.2.2.2.1, hnr2_c.2.2.2.2.2.2.2.2.2.2, hnr2_cp.1, hnr2_cp.2.1, hnr2_cp.2.2.1, hnr2_cp.2.2.2.1, hnr2_cp.2.2.2.2.1, hnr2_cp.2.2.2.2.2.1, hnr2_cp.2.2.2.2.2.2.1, hnr2_cp.2.2.2.2.2.2.2.1, hnr2_cp.2.2.2.2.2.2.2.2.1, hnr2_cp.2.2.2.2.2.2.2.2.2.1, hnr2_cp.2.2.2.2.2.2.2.2.2.2, w1, hlt, g1]
    generalize IntKind.u64.wrap (IntKind.u64.wrap (IntKind.u64.wrap (s_c * 6364136223846793005) + IntKind.u64.wrap 0) + 381907) = s2
    have hy : ∀ z : Nat, z &&& 255 % 2 ^ IntKind.u64.bits < 256 := fun z => by
      rw [show (255 % 2 ^ IntKind.u64.bits : Nat) = 255 by decide]
      have := Nat.and_le_right (n := z) (m := 255)
      omega
    have hyy := hy (s2.fdiv (2 ^ min 40 IntKind.u64.bits) % 2 ^ IntKind.u64.bits).toNat
    generalize ((s2.fdiv (2 ^ min 40 IntKind.u64.bits) % 2 ^ IntKind.u64.bits).toNat &&& 255 % 2 ^ IntKind.u64.bits : Nat) = y at hyy ⊢
    rw [wrapU_idC (by omega) (by omega), wrap_id (by omega) (by omega)]
    exact .old (H := H.set c_p _) (cur_wf hwf hk_c _ _) (.refl _) (by simp [frOk, AV.okR, AV.ok1, AC.okR, AV.ren, AV.ren1, AC.ren, AFrame.get, pl1_old, *]; first | done | rfl | omega) (h y _ hyy)

theorem Stop.out {X : Prop} {u : UnitOf X} (h : Stop X u) : X := h
theorem pick_mod (x n : Nat) (hn : 1 < n) : (x : Int).tmod (n : Int) = ((x % n : Nat) : Int) := by
  rw [Int.tmod_eq_emod_of_nonneg (by omega)]; omega
/-- what follows a draw from n -/
def drawnK (n : Int) (x : Nat) : Prop := 1 ≤ n → (x : Int) < n

def q_cpick : Con := fun args H K => match args with
  | [.c (.ptr c_p 0 0), .c (.int .i64 n)] => onCur H c_p 900000000 fun b_c i_c n_c a_c s_c => Stop (∀ (x : Nat) (a' s' : Int), a_c ≤ a' → a' ≤ a_c + 2 → drawnK n x → K (.c (.int .i64 ((x : Int)))) (H.set c_p (curK b_c i_c n_c a' s'))) ()
  | _ => False
@[simp ↓] theorem q_cpick_eq (c_p : Nat) (n : Int) (H : AHeap) (K : AV → AHeap → Prop) : q_cpick [.c (.ptr c_p 0 0), .c (.int .i64 n)] H K = (onCur H c_p 900000000 fun b_c i_c n_c a_c s_c => Stop (∀ (x : Nat) (a' s' : Int), a_c ≤ a' → a' ≤ a_c + 2 → drawnK n x → K (.c (.int .i64 ((x : Int)))) (H.set c_p (curK b_c i_c n_c a' s'))) ()) := rfl

theorem spec_l1Cur__pick_s : Sound Try.prog 89 q_cpick := by
  intro args H K h
  unfold q_cpick at h
  split at h
  rotate_left
  all_goals first | exact False.elim h | skip
  rename_i c_p n
  have h1 := onCur_iff.1 h
  clear h
  obtain ⟨b_c, i_c, n_c, a_c, s_c, k_c, l_c, hk_c, hcb_c, h0_c, hlim_c, hat_c, rfl, h⟩ := h1
  have hE := soundE_cons spec_l1Cur__next_s (soundE_nil (P := Try.prog))
  refine acalls_fn __spec_l1Cur__pick_k hE ⟨by simp, fun hwf => ?_⟩
  have hb_c : b_c < H.n := (hwf b_c k_c hat_c.blk).1
  have hp_c : c_p < H.n := (hwf c_p _ hk_c).1
  have hbc_c : (b_c = c_p) = False := eq_false (Ne.symm hcb_c)
  have hbd_c : (c_p = b_c) = False := eq_false hcb_c
  have hne_c : (b_c = H.n) = False := eq_false (by omega)
  have hnp_c : (c_p = H.n) = False := eq_false (by omega)
  have hne1_c : ∀ i, (b_c = H.n + i) = False := fun i => eq_false (by omega)
  have hnp1_c : ∀ i, (c_p = H.n + i) = False := fun i => eq_false (by omega)
  have hne2_c : (b_c = H.n + 1 + 1) = False ∧ (b_c = H.n + 1 + 1 + 1) = False ∧ (b_c = H.n + 1 + 1 + 1 + 1) = False ∧ (b_c = H.n + 1 + 1 + 1 + 1 + 1) = False ∧ (b_c = H.n + 1 + 1 + 1 + 1 + 1 + 1) = False ∧ (b_c = H.n + 1 + 1 + 1 + 1 + 1 + 1 + 1) = False ∧ (b_c = H.n + 1 + 1 + 1 + 1 + 1 + 1 + 1 + 1) = False ∧ (b_c = H.n + 1 + 1 + 1 + 1 + 1 + 1 + 1 + 1 + 1) = False ∧ (b_c = H.n + 1 + 1 + 1 + 1 + 1 + 1 + 1 + 1 + 1 + 1) = False ∧ (b_c = H.n + 1 + 1 + 1 + 1 + 1 + 1 + 1 + 1 + 1 + 1 + 1) = False ∧ (b_c = H.n + 1 + 1 + 1 + 1 + 1 + 1 + 1 + 1 + 1 + 1 + 1 + 1) = False := ⟨eq_false (by omega), eq_false (by omega), eq_false (by omega), eq_false (by omega), eq_false (by omega), eq_false (by omega), eq_false (by omega), eq_false (by omega), eq_false (by omega), eq_false (by omega), eq_false (by omega)⟩
  have hne2_cp : (c_p = H.n + 1 + 1) = False ∧ (c_p = H.n + 1 + 1 + 1) = False ∧ (c_p = H.n + 1 + 1 + 1 + 1) = False ∧ (c_p = H.n + 1 + 1 + 1 + 1 + 1) = False ∧ (c_p = H.n + 1 + 1 + 1 + 1 + 1 + 1) = False ∧ (c_p = H.n + 1 + 1 + 1 + 1 + 1 + 1 + 1) = False ∧ (c_p = H.n + 1 + 1 + 1 + 1 + 1 + 1 + 1 + 1) = False ∧ (c_p = H.n + 1 + 1 + 1 + 1 + 1 + 1 + 1 + 1 + 1) = False ∧ (c_p = H.n + 1 + 1 + 1 + 1 + 1 + 1 + 1 + 1 + 1 + 1) = False ∧ (c_p = H.n + 1 + 1 + 1 + 1 + 1 + 1 + 1 + 1 + 1 + 1 + 1) = False ∧ (c_p = H.n + 1 + 1 + 1 + 1 + 1 + 1 + 1 + 1 + 1 + 1 + 1 + 1) = False := ⟨eq_false (by omega), eq_false (by omega), eq_false (by omega), eq_false (by omega), eq_false (by omega), eq_false (by omega), eq_false (by omega), eq_false (by omega), eq_false (by omega), eq_false (by omega), eq_false (by omega)⟩
  have hnq_c : (H.n = c_p) = False := eq_false (by omega)
  have hnq1_c : ∀ i, (H.n + i = c_p) = False := fun i => eq_false (by omega)
  have hnb_c : (H.n = b_c) = False := eq_false (by omega)
  have hnb1_c : ∀ i, (H.n + i = b_c) = False := fun i => eq_false (by omega)
  have hnr2_cp : (H.n + 1 + 1 = c_p) = False ∧ (H.n + 1 + 1 + 1 = c_p) = False ∧ (H.n + 1 + 1 + 1 + 1 = c_p) = False ∧ (H.n + 1 + 1 + 1 + 1 + 1 = c_p) = False ∧ (H.n + 1 + 1 + 1 + 1 + 1 + 1 = c_p) = False ∧ (H.n + 1 + 1 + 1 + 1 + 1 + 1 + 1 = c_p) = False ∧ (H.n + 1 + 1 + 1 + 1 + 1 + 1 + 1 + 1 = c_p) = False ∧ (H.n + 1 + 1 + 1 + 1 + 1 + 1 + 1 + 1 + 1 = c_p) = False ∧ (H.n + 1 + 1 + 1 + 1 + 1 + 1 + 1 + 1 + 1 + 1 = c_p) = False ∧ (H.n + 1 + 1 + 1 + 1 + 1 + 1 + 1 + 1 + 1 + 1 + 1 = c_p) = False ∧ (H.n + 1 + 1 + 1 + 1 + 1 + 1 + 1 + 1 + 1 + 1 + 1 + 1 = c_p) = False := ⟨eq_false (by omega), eq_false (by omega), eq_false (by omega), eq_false (by omega), eq_false (by omega), eq_false (by omega), eq_false (by omega), eq_false (by omega), eq_false (by omega), eq_false (by omega), eq_false (by omega)⟩
  have hnr2_c : (H.n + 1 + 1 = b_c) = False ∧ (H.n + 1 + 1 + 1 = b_c) = False ∧ (H.n + 1 + 1 + 1 + 1 = b_c) = False ∧ (H.n + 1 + 1 + 1 + 1 + 1 = b_c) = False ∧ (H.n + 1 + 1 + 1 + 1 + 1 + 1 = b_c) = False ∧ (H.n + 1 + 1 + 1 + 1 + 1 + 1 + 1 = b_c) = False ∧ (H.n + 1 + 1 + 1 + 1 + 1 + 1 + 1 + 1 = b_c) = False ∧ (H.n + 1 + 1 + 1 + 1 + 1 + 1 + 1 + 1 + 1 = b_c) = False ∧ (H.n + 1 + 1 + 1 + 1 + 1 + 1 + 1 + 1 + 1 + 1 = b_c) = False ∧ (H.n + 1 + 1 + 1 + 1 + 1 + 1 + 1 + 1 + 1 + 1 + 1 = b_c) = False ∧ (H.n + 1 + 1 + 1 + 1 + 1 + 1 + 1 + 1 + 1 + 1 + 1 + 1 = b_c) = False := ⟨eq_false (by omega), eq_false (by omega), eq_false (by omega), eq_false (by omega), eq_false (by omega), eq_false (by omega), eq_false (by omega), eq_false (by omega), eq_false (by omega), eq_false (by omega), eq_false (by omega)⟩
  have hmx_c : l_c.length ≤ 9223372036854775807 := by have h1 := (hwf b_c k_c hat_c.blk).2.2; have h2 := hat_c.len; omega
  have hl9 : a_c ≤ 1000000000 := by omega
  by_cases h1 : n ≤ 1
  · simp (config := {contextual := true, implicitDefEqProofs := false, maxSteps := 2000000}) [-Int.not_le, -Int.not_lt, argsF, __spec_l1Cur__pick_c, onCur, dlI, dlT, hk_c, hcb_c, hbc_c, hbd_c, h0_c, hlim_c, hat_c.blk, hat_c.esz, hat_c.len, hat_c.els, hne_c, hnp_c, hne1_c, hnp1_c, hnq_c, hnq1_c, hnb_c, hnb1_c, hne2_c.1, hne2_c.2.1, hne2_c.2.2.1, hne2_c.2.2.2.1, hne2_c.2.2.2.2.1, hne2_c.2.2.2.2.2.1, hne2_c.2.2.2.2.2.2.1, hne2_c.2.2.2.2.2.2.2.1, hne2_c.2.2.2.2.2.2.2.2.1, hne2_c.2.2.2.2.2.2.2.2.2.1, hne2_c.2.2.2.2.2.2.2.2.2.2, hne2_cp.1, hne2_cp.2.1, hne2_cp.2.2.1, hne2_cp.2.2.2.1, hne2_cp.2.2.2.2.1, hne2_cp.2.2.2.2.2.1, hne2_cp.2.2.2.2.2.2.1, hne2_cp.2.2.2.2.2.2.2.1, hne2_cp.2.2.2.2.2.2.2.2.1, hne2_cp.2.2.2.2.2.2.2.2.2.1, hne2_cp.2.2.2.2.2.2.2.2.2.2, hnr2_c.1, hnr2_c.2.1, hnr2_c.2.2.1, hnr2_c.2.2.2.1, hnr2_c.2.2.2.2.1, hnr2_c.2.2.2.2.2.1, hnr2_c.2.2.2.2.2.2.1, hnr2_c.2.2.2.2.2.2.2.1, hnr2_c.2.2.2.2.2.2.2.2.1, hnr2_c.2.2.2.2.2.2.2.2.2.1, hnr2_c.2.2.2.2.2.2.2.2.2.2, hnr2_cp.1, hnr2_cp.2.1, hnr2_cp.2.2.1, hnr2_cp.2.2.2.1, hnr2_cp.2.2.2.2.1, hnr2_cp.2.2.2.2.2.1, hnr2_cp.2.2.2.2.2.2.1, hnr2_cp.2.2.2.2.2.2.2.1, hnr2_cp.2.2.2.2.2.2.2.2.1, hnr2_cp.2.2.2.2.2.2.2.2.2.1, hnr2_cp.2.2.2.2.2.2.2.2.2.2, h1]
    have h2 := Stop.out h 0 a_c s_c (Int.le_refl _) (by omega) (fun h3 => by omega)
    rw [cur_self hk_c] at h2
    (refine Out.plain hwf ?_ rfl ?_; (repeat first | exact Sub.refl _ | refine Sub.push hwf ?_ _ | refine Sub.set hwf ?_ (by first | exact Nat.le_refl _ | omega | (simp only [push_n, set_n, kill_n]; omega)) _ | refine Sub.kill hwf ?_ (by first | exact Nat.le_refl _ | omega | (simp only [push_n, set_n, kill_n]; omega)))); exact h2
  have hn0 : ¬ n = 0 := by omega
  obtain ⟨m, rfl⟩ : ∃ m : Nat, n = (m : Int) := ⟨n.toNat, by omega⟩
  by_cases h2 : 200 < (m : Int)
  · simp (config := {contextual := true, implicitDefEqProofs := false, maxSteps := 2000000}) [-Int.not_le, -Int.not_lt, argsF, __spec_l1Cur__pick_c, onCur, dlI, dlT, hk_c, hcb_c, hbc_c, hbd_c, h0_c, hlim_c, hat_c.blk, hat_c.esz, hat_c.len, hat_c.els, hne_c, hnp_c, hne1_c, hnp1_c, hnq_c, hnq1_c, hnb_c, hnb1_c, hne2_c.1, hne2_c.2.1, hne2_c.2.2.1, hne2_c.2.2.2.1, hne2_c.2.2.2.2.1, hne2_c.2.2.2.2.2.1, hne2_c.2.2.2.2.2.2.1, hne2_c.2.2.2.2.2.2.2.1, hne2_c.2.2.2.2.2.2.2.2.1, hne2_c.2.2.2.2.2.2.2.2.2.1, hne2_c.2.2.2.2.2.2.2.2.2.2, hne2_cp.1, hne2_cp.2.1, hne2_cp.2.2.1, hne2_cp.2.2.2.1, hne2_cp.2.2.2.2.1, hne2_cp.2.2.2.2.2.1, hne2_cp.2.2.2.2.2.2.1, hne2_cp.2.2.2.2.2.2.2.1, hne2_cp.2.2.2.2.2.2.2.2.1, hne2_cp.2.2.2.2.2.2.2.2.2.1, hne2_cp.2.2.2.2.2.2.2.2.2.2, hnr2_c.1, hnr2_c.2.1, hnr2_c.2.2.1, hnr2_c.2.2.2.1, hnr2_c.2.2.2.2.1, hnr2_c.2.2.2.2.2.1, hnr2_c.2.2.2.2.2.2.1, hnr2_c.2.2.2.2.2.2.2.1, hnr2_c.2.2.2.2.2.2.2.2.1, hnr2_c.2.2.2.2.2.2.2.2.2.1, hnr2_c.2.2.2.2.2.2.2.2.2.2, hnr2_cp.1, hnr2_cp.2.1, hnr2_cp.2.2.1, hnr2_cp.2.2.2.1, hnr2_cp.2.2.2.2.1, hnr2_cp.2.2.2.2.2.1, hnr2_cp.2.2.2.2.2.2.1, hnr2_cp.2.2.2.2.2.2.2.1, hnr2_cp.2.2.2.2.2.2.2.2.1, hnr2_cp.2.2.2.2.2.2.2.2.2.1, hnr2_cp.2.2.2.2.2.2.2.2.2.2, h1, h2, hl9, hn0]
    intro x hx
    refine ⟨by omega, by omega, fun y s2 hy => ⟨by omega, ?_⟩⟩
    rw [wrap_id (n := (x : Int) * 256) (by omega) (by omega), wrap_id (by omega) (by omega), show ((x : Int) * 256 + (y : Int)) = ((x * 256 + y : Nat) : Int) by omega, pick_mod _ m (by omega)]
    exact .old (H := H.set c_p _) (cur_wf hwf hk_c _ _) (.refl _) (by simp [frOk, AV.okR, AV.ok1, AC.okR, AV.ren, AV.ren1, AC.ren, AFrame.get, pl1_old, *]; first | done | rfl | omega) (Stop.out h ((x * 256 + y) % m) _ _ (by omega) (by omega) (fun _ => by have := Nat.mod_lt (x * 256 + y) (show 0 < m by omega); omega))
  · simp (config := {contextual := true, implicitDefEqProofs := false, maxSteps := 2000000}) [-Int.not_le, -Int.not_lt, argsF, __spec_l1Cur__pick_c, onCur, dlI, dlT, hk_c, hcb_c, hbc_c, hbd_c, h0_c, hlim_c, hat_c.blk, hat_c.esz, hat_c.len, hat_c.els, hne_c, hnp_c, hne1_c, hnp1_c, hnq_c, hnq1_c, hnb_c, hnb1_c, hne2_c.1, hne2_c.2.1, hne2_c.2.2.1, hne2_c.2.2.2.1, hne2_c.2.2.2.2.1, hne2_c.2.2.2.2.2.1, hne2_c.2.2.2.2.2.2.1, hne2_c.2.2.2.2.2.2.2.1, hne2_c.2.2.2.2.2.2.2.2.1, hne2_c.2.2.2.2.2.2.2.2.2.1, hne2_c.2.2.2.2.2.2.2.2.2.2, hne2_cp.1, hne2_cp.2.1, hne2_cp.2.2.1, hne2_cp.2.2.2.1, hne2_cp.2.2.2.2.1, hne2_cp.2.2.2.2.2.1, hne2_cp.2.2.2.2.2.2.1, hne2_cp.2.2.2.2.2.2.2.1, hne2_cp.2.2.2.2.2.2.2.2.1, hne2_cp.2.2.2.2.2.2.2.2.2.1, hne2_cp.2.2.2.2.2.2.2.2.2.2, hnr2_c.1, hnr2_c.2.1, hnr2_c.2.2.1, hnr2_c.2.2.2.1, hnr2_c.2.2.2.2.1, hnr2_c.2.2.2.2.2.1, hnr2_c.2.2.2.2.2.2.1, hnr2_c.2.2.2.2.2.2.2.1, hnr2_c.2.2.2.2.2.2.2.2.1, hnr2_c.2.2.2.2.2.2.2.2.2.1, hnr2_c.2.2.2.2.2.2.2.2.2.2, hnr2_cp.1, hnr2_cp.2.1, hnr2_cp.2.2.1, hnr2_cp.2.2.2.1, hnr2_cp.2.2.2.2.1, hnr2_cp.2.2.2.2.2.1, hnr2_cp.2.2.2.2.2.2.1, hnr2_cp.2.2.2.2.2.2.2.1, hnr2_cp.2.2.2.2.2.2.2.2.1, hnr2_cp.2.2.2.2.2.2.2.2.2.1, hnr2_cp.2.2.2.2.2.2.2.2.2.2, h1, h2, hl9, hn0]
    intro x s1 hx
    refine ⟨by omega, ?_⟩
    rw [pick_mod _ m (by omega)]
    exact .old (H := H.set c_p _) (cur_wf hwf hk_c _ _) (.refl _) (by simp [frOk, AV.okR, AV.ok1, AC.okR, AV.ren, AV.ren1, AC.ren, AFrame.get, pl1_old, *]; first | done | rfl | omega) (Stop.out h (x % m) _ _ (by omega) (by omega) (fun _ => by have := Nat.mod_lt x (show 0 < m by omega); omega))

def q_one : Con := fun args H K => match args with
  | [.c (.ptr c_p 0 0), .c (.int .i64 n)] => onCur H c_p 900000000 fun b_c i_c n_c a_c s_c => Stop (∀ (x : Bool) (a' s' : Int), a_c ≤ a' → a' ≤ a_c + 2 → K (.c (.bool (x))) (H.set c_p (curK b_c i_c n_c a' s'))) ()
  | _ => False
@[simp ↓] theorem q_one_eq (c_p : Nat) (n : Int) (H : AHeap) (K : AV → AHeap → Prop) : q_one [.c (.ptr c_p 0 0), .c (.int .i64 n)] H K = (onCur H c_p 900000000 fun b_c i_c n_c a_c s_c => Stop (∀ (x : Bool) (a' s' : Int), a_c ≤ a' → a' ≤ a_c + 2 → K (.c (.bool (x))) (H.set c_p (curK b_c i_c n_c a' s'))) ()) := rfl

theorem spec_l1Cur__one_s : Sound Try.prog 120 q_one := by
  intro args H K h
  unfold q_one at h
  split at h
  rotate_left
  all_goals first | exact False.elim h | skip
  rename_i c_p n
  have h1 := onCur_iff.1 h
  clear h
  obtain ⟨b_c, i_c, n_c, a_c, s_c, k_c, l_c, hk_c, hcb_c, h0_c, hlim_c, hat_c, rfl, h⟩ := h1
  have hE := soundE_cons spec_l1Cur__pick_s (soundE_nil (P := Try.prog))
  refine acalls_fn __spec_l1Cur__one_k hE ⟨by simp, fun hwf => ?_⟩
  have hb_c : b_c < H.n := (hwf b_c k_c hat_c.blk).1
  have hp_c : c_p < H.n := (hwf c_p _ hk_c).1
  have hbc_c : (b_c = c_p) = False := eq_false (Ne.symm hcb_c)
  have hbd_c : (c_p = b_c) = False := eq_false hcb_c
  have hne_c : (b_c = H.n) = False := eq_false (by omega)
  have hnp_c : (c_p = H.n) = False := eq_false (by omega)
  have hne1_c : ∀ i, (b_c = H.n + i) = False := fun i => eq_false (by omega)
  have hnp1_c : ∀ i, (c_p = H.n + i) = False := fun i => eq_false (by omega)
  have hne2_c : (b_c = H.n + 1 + 1) = False ∧ (b_c = H.n + 1 + 1 + 1) = False ∧ (b_c = H.n + 1 + 1 + 1 + 1) = False ∧ (b_c = H.n + 1 + 1 + 1 + 1 + 1) = False ∧ (b_c = H.n + 1 + 1 + 1 + 1 + 1 + 1) = False ∧ (b_c = H.n + 1 + 1 + 1 + 1 + 1 + 1 + 1) = False ∧ (b_c = H.n + 1 + 1 + 1 + 1 + 1 + 1 + 1 + 1) = False ∧ (b_c = H.n + 1 + 1 + 1 + 1 + 1 + 1 + 1 + 1 + 1) = False ∧ (b_c = H.n + 1 + 1 + 1 + 1 + 1 + 1 + 1 + 1 + 1 + 1) = False ∧ (b_c = H.n + 1 + 1 + 1 + 1 + 1 + 1 + 1 + 1 + 1 + 1 + 1) = False ∧ (b_c = H.n + 1 + 1 + 1 + 1 + 1 + 1 + 1 + 1 + 1 + 1 + 1 + 1) = False := ⟨eq_false (by omega), eq_false (by omega), eq_false (by omega), eq_false (by omega), eq_false (by omega), eq_false (by omega), eq_false (by omega), eq_false (by omega), eq_false (by omega), eq_false (by omega), eq_false (by omega)⟩
  have hne2_cp : (c_p = H.n + 1 + 1) = False ∧ (c_p = H.n + 1 + 1 + 1) = False ∧ (c_p = H.n + 1 + 1 + 1 + 1) = False ∧ (c_p = H.n + 1 + 1 + 1 + 1 + 1) = False ∧ (c_p = H.n + 1 + 1 + 1 + 1 + 1 + 1) = False ∧ (c_p = H.n + 1 + 1 + 1 + 1 + 1 + 1 + 1) = False ∧ (c_p = H.n + 1 + 1 + 1 + 1 + 1 + 1 + 1 + 1) = False ∧ (c_p = H.n + 1 + 1 + 1 + 1 + 1 + 1 + 1 + 1 + 1) = False ∧ (c_p = H.n + 1 + 1 + 1 + 1 + 1 + 1 + 1 + 1 + 1 + 1) = False ∧ (c_p = H.n + 1 + 1 + 1 + 1 + 1 + 1 + 1 + 1 + 1 + 1 + 1) = False ∧ (c_p = H.n + 1 + 1 + 1 + 1 + 1 + 1 + 1 + 1 + 1 + 1 + 1 + 1) = False := ⟨eq_false (by omega), eq_false (by omega), eq_false (by omega), eq_false (by omega), eq_false (by omega), eq_false (by omega), eq_false (by omega), eq_false (by omega), eq_false (by omega), eq_false (by omega), eq_false (by omega)⟩
  have hnq_c : (H.n = c_p) = False := eq_false (by omega)
  have hnq1_c : ∀ i, (H.n + i = c_p) = False := fun i => eq_false (by omega)
  have hnb_c : (H.n = b_c) = False := eq_false (by omega)
  have hnb1_c : ∀ i, (H.n + i = b_c) = False := fun i => eq_false (by omega)
  have hnr2_cp : (H.n + 1 + 1 = c_p) = False ∧ (H.n + 1 + 1 + 1 = c_p) = False ∧ (H.n + 1 + 1 + 1 + 1 = c_p) = False ∧ (H.n + 1 + 1 + 1 + 1 + 1 = c_p) = False ∧ (H.n + 1 + 1 + 1 + 1 + 1 + 1 = c_p) = False ∧ (H.n + 1 + 1 + 1 + 1 + 1 + 1 + 1 = c_p) = False ∧ (H.n + 1 + 1 + 1 + 1 + 1 + 1 + 1 + 1 = c_p) = False ∧ (H.n + 1 + 1 + 1 + 1 + 1 + 1 + 1 + 1 + 1 = c_p) = False ∧ (H.n + 1 + 1 + 1 + 1 + 1 + 1 + 1 + 1 + 1 + 1 = c_p) = False ∧ (H.n + 1 + 1 + 1 + 1 + 1 + 1 + 1 + 1 + 1 + 1 + 1 = c_p) = False ∧ (H.n + 1 + 1 + 1 + 1 + 1 + 1 + 1 + 1 + 1 + 1 + 1 + 1 = c_p) = False := ⟨eq_false (by omega), eq_false (by omega), eq_false (by omega), eq_false (by omega), eq_false (by omega), eq_false (by omega), eq_false (by omega), eq_false (by omega), eq_false (by omega), eq_false (by omega), eq_false (by omega)⟩
  have hnr2_c : (H.n + 1 + 1 = b_c) = False ∧ (H.n + 1 + 1 + 1 = b_c) = False ∧ (H.n + 1 + 1 + 1 + 1 = b_c) = False ∧ (H.n + 1 + 1 + 1 + 1 + 1 = b_c) = False ∧ (H.n + 1 + 1 + 1 + 1 + 1 + 1 = b_c) = False ∧ (H.n + 1 + 1 + 1 + 1 + 1 + 1 + 1 = b_c) = False ∧ (H.n + 1 + 1 + 1 + 1 + 1 + 1 + 1 + 1 = b_c) = False ∧ (H.n + 1 + 1 + 1 + 1 + 1 + 1 + 1 + 1 + 1 = b_c) = False ∧ (H.n + 1 + 1 + 1 + 1 + 1 + 1 + 1 + 1 + 1 + 1 = b_c) = False ∧ (H.n + 1 + 1 + 1 + 1 + 1 + 1 + 1 + 1 + 1 + 1 + 1 = b_c) = False ∧ (H.n + 1 + 1 + 1 + 1 + 1 + 1 + 1 + 1 + 1 + 1 + 1 + 1 = b_c) = False := ⟨eq_false (by omega), eq_false (by omega), eq_false (by omega), eq_false (by omega), eq_false (by omega), eq_false (by omega), eq_false (by omega), eq_false (by omega), eq_false (by omega), eq_false (by omega), eq_false (by omega)⟩
  have hmx_c : l_c.length ≤ 9223372036854775807 := by have h1 := (hwf b_c k_c hat_c.blk).2.2; have h2 := hat_c.len; omega
  simp (config := {contextual := true, implicitDefEqProofs := false, maxSteps := 2000000}) [-Int.not_le, -Int.not_lt, argsF, __spec_l1Cur__one_c, onCur, dlI, dlT, hk_c, hcb_c, hbc_c, hbd_c, h0_c, hlim_c, hat_c.blk, hat_c.esz, hat_c.len, hat_c.els, hne_c, hnp_c, hne1_c, hnp1_c, hnq_c, hnq1_c, hnb_c, hnb1_c, hne2_c.1, hne2_c.2.1, hne2_c.2.2.1, hne2_c.2.2.2.1, hne2_c.2.2.2.2.1, hne2_c.2.2.2.2.2.1, hne2_c.2.2.2.2.2.2.1, hne2_c.2.2.2.2.2.2.2.1, hne2_c.2.2.2.2.2.2.2.2.1, hne2_c.2.2.2.2.2.2.2.2.2.1, hne2_c.2.2.2.2.2.2.2.2.2.2, hne2_cp.1, hne2_cp.2.1, hne2_cp.2.2.1, hne2_cp.2.2.2.1, hne2_cp.2.2.2.2.1, hne2_cp.2.2.2.2.2.1, hne2_cp.2.2.2.2.2.2.1, hne2_cp.2.2.2.2.2.2.2.1, hne2_cp.2.2.2.2.2.2.2.2.1, hne2_cp.2.2.2.2.2.2.2.2.2.1, hne2_cp.2.2.2.2.2.2.2.2.2.2, hnr2_c.1, hnr2_c.2.1, hnr2_c.2.2.1, hnr2_c.2.2.2.1, hnr2_c.2.2.2.2.1, hnr2_c.2.2.2.2.2.1, hnr2_c.2.2.2.2.2.2.1, hnr2_c.2.2.2.2.2.2.2.1, hnr2_c.2.2.2.2.2.2.2.2.1, hnr2_c.2.2.2.2.2.2.2.2.2.1, hnr2_c.2.2.2.2.2.2.2.2.2.2, hnr2_cp.1, hnr2_cp.2.1, hnr2_cp.2.2.1, hnr2_cp.2.2.2.1, hnr2_cp.2.2.2.2.1, hnr2_cp.2.2.2.2.2.1, hnr2_cp.2.2.2.2.2.2.1, hnr2_cp.2.2.2.2.2.2.2.1, hnr2_cp.2.2.2.2.2.2.2.2.1, hnr2_cp.2.2.2.2.2.2.2.2.2.1, hnr2_cp.2.2.2.2.2.2.2.2.2.2]
  refine Stop.mk fun x a1 s1 hl hu hx => ?_
  simp (config := {contextual := true, implicitDefEqProofs := false, maxSteps := 2000000}) [-Int.not_le, -Int.not_lt, argsF, __spec_l1Cur__one_c]
  exact .old (H := H.set c_p _) (cur_wf hwf hk_c _ _) (.refl _) (by simp [frOk, AV.okR, AV.ok1, AC.okR, AV.ren, AV.ren1, AC.ren, AFrame.get, pl1_old, *]; first | done | rfl | omega) (Stop.out h _ a1 s1 hl hu)

def q_among : Con := fun args H K => match args with
  | [.c (.ptr c_p 0 0), ps_v] => onCur H c_p 900000000 fun b_c i_c n_c a_c s_c => eI.rd H (fun ps => ¬ ps = [] ∧ Stop (∀ (x a' s' : Int), x ∈ ps → a_c ≤ a' → a' ≤ a_c + 2 → K (.c (.int .i64 (x))) (H.set c_p (curK b_c i_c n_c a' s'))) ()) ps_v
  | _ => False
@[simp ↓] theorem q_among_eq (c_p : Nat) (ps_v : AV) (H : AHeap) (K : AV → AHeap → Prop) : q_among [.c (.ptr c_p 0 0), ps_v] H K = (onCur H c_p 900000000 fun b_c i_c n_c a_c s_c => eI.rd H (fun ps => ¬ ps = [] ∧ Stop (∀ (x a' s' : Int), x ∈ ps → a_c ≤ a' → a' ≤ a_c + 2 → K (.c (.int .i64 (x))) (H.set c_p (curK b_c i_c n_c a' s'))) ()) ps_v) := rfl

def q_of : Con := fun args H K => match args with
  | [.c (.ptr c_p 0 0), ps_v] => onCur H c_p 900000000 fun b_c i_c n_c a_c s_c => eT.rd H (fun ps => ¬ ps = [] ∧ Stop (∀ (x : List UInt8) (a' s' : Int), x ∈ ps → a_c ≤ a' → a' ≤ a_c + 2 → K (.c (.str (x))) (H.set c_p (curK b_c i_c n_c a' s'))) ()) ps_v
  | _ => False
@[simp ↓] theorem q_of_eq (c_p : Nat) (ps_v : AV) (H : AHeap) (K : AV → AHeap → Prop) : q_of [.c (.ptr c_p 0 0), ps_v] H K = (onCur H c_p 900000000 fun b_c i_c n_c a_c s_c => eT.rd H (fun ps => ¬ ps = [] ∧ Stop (∀ (x : List UInt8) (a' s' : Int), x ∈ ps → a_c ≤ a' → a' ≤ a_c + 2 → K (.c (.str (x))) (H.set c_p (curK b_c i_c n_c a' s'))) ()) ps_v) := rfl

theorem spec_l1Cur__among_s : Sound Try.prog 88 q_among := by
  intro args H K h
  unfold q_among at h
  split at h
  rotate_left
  all_goals first | exact False.elim h | skip
  rename_i c_p ps_v
  have h1 := onCur_iff.1 h
  clear h
  obtain ⟨b_c, i_c, n_c, a_c, s_c, k_c, l_c, hk_c, hcb_c, h0_c, hlim_c, hat_c, rfl, h⟩ := h1
  have h1 := Enc.rd_at h
  clear h
  obtain ⟨b_ps, i_ps, k_ps, ps, rfl, hat_ps, h⟩ := h1
  have hE := soundE_cons spec_l1Cur__pick_s (soundE_nil (P := Try.prog))
  refine acalls_fn __spec_l1Cur__among_k hE ⟨by simp, fun hwf => ?_⟩
  have hb_ps : b_ps < H.n := (hwf b_ps k_ps hat_ps.blk).1
  have hne_ps : (b_ps = H.n) = False := eq_false (by omega)
  have hne1_ps : ∀ i, (b_ps = H.n + i) = False := fun i => eq_false (by omega)
  have hne2_ps : (b_ps = H.n + 1 + 1) = False ∧ (b_ps = H.n + 1 + 1 + 1) = False ∧ (b_ps = H.n + 1 + 1 + 1 + 1) = False ∧ (b_ps = H.n + 1 + 1 + 1 + 1 + 1) = False ∧ (b_ps = H.n + 1 + 1 + 1 + 1 + 1 + 1) = False ∧ (b_ps = H.n + 1 + 1 + 1 + 1 + 1 + 1 + 1) = False ∧ (b_ps = H.n + 1 + 1 + 1 + 1 + 1 + 1 + 1 + 1) = False ∧ (b_ps = H.n + 1 + 1 + 1 + 1 + 1 + 1 + 1 + 1 + 1) = False ∧ (b_ps = H.n + 1 + 1 + 1 + 1 + 1 + 1 + 1 + 1 + 1 + 1) = False ∧ (b_ps = H.n + 1 + 1 + 1 + 1 + 1 + 1 + 1 + 1 + 1 + 1 + 1) = False ∧ (b_ps = H.n + 1 + 1 + 1 + 1 + 1 + 1 + 1 + 1 + 1 + 1 + 1 + 1) = False := ⟨eq_false (by omega), eq_false (by omega), eq_false (by omega), eq_false (by omega), eq_false (by omega), eq_false (by omega), eq_false (by omega), eq_false (by omega), eq_false (by omega), eq_false (by omega), eq_false (by omega)⟩
  have hmx_ps : ps.length ≤ 9223372036854775807 := by have h1 := (hwf b_ps k_ps hat_ps.blk).2.2; have h2 := hat_ps.len; omega
  have hb_c : b_c < H.n := (hwf b_c k_c hat_c.blk).1
  have hp_c : c_p < H.n := (hwf c_p _ hk_c).1
  have hbc_c : (b_c = c_p) = False := eq_false (Ne.symm hcb_c)
  have hbd_c : (c_p = b_c) = False := eq_false hcb_c
  have hne_c : (b_c = H.n) = False := eq_false (by omega)
  have hnp_c : (c_p = H.n) = False := eq_false (by omega)
  have hne1_c : ∀ i, (b_c = H.n + i) = False := fun i => eq_false (by omega)
  have hnp1_c : ∀ i, (c_p = H.n + i) = False := fun i => eq_false (by omega)
  have hne2_c : (b_c = H.n + 1 + 1) = False ∧ (b_c = H.n + 1 + 1 + 1) = False ∧ (b_c = H.n + 1 + 1 + 1 + 1) = False ∧ (b_c = H.n + 1 + 1 + 1 + 1 + 1) = False ∧ (b_c = H.n + 1 + 1 + 1 + 1 + 1 + 1) = False ∧ (b_c = H.n + 1 + 1 + 1 + 1 + 1 + 1 + 1) = False ∧ (b_c = H.n + 1 + 1 + 1 + 1 + 1 + 1 + 1 + 1) = False ∧ (b_c = H.n + 1 + 1 + 1 + 1 + 1 + 1 + 1 + 1 + 1) = False ∧ (b_c = H.n + 1 + 1 + 1 + 1 + 1 + 1 + 1 + 1 + 1 + 1) = False ∧ (b_c = H.n + 1 + 1 + 1 + 1 + 1 + 1 + 1 + 1 + 1 + 1 + 1) = False ∧ (b_c = H.n + 1 + 1 + 1 + 1 + 1 + 1 + 1 + 1 + 1 + 1 + 1 + 1) = False := ⟨eq_false (by omega), eq_false (by omega), eq_false (by omega), eq_false (by omega), eq_false (by omega), eq_false (by omega), eq_false (by omega), eq_false (by omega), eq_false (by omega), eq_false (by omega), eq_false (by omega)⟩
  have hne2_cp : (c_p = H.n + 1 + 1) = False ∧ (c_p = H.n + 1 + 1 + 1) = False ∧ (c_p = H.n + 1 + 1 + 1 + 1) = False ∧ (c_p = H.n + 1 + 1 + 1 + 1 + 1) = False ∧ (c_p = H.n + 1 + 1 + 1 + 1 + 1 + 1) = False ∧ (c_p = H.n + 1 + 1 + 1 + 1 + 1 + 1 + 1) = False ∧ (c_p = H.n + 1 + 1 + 1 + 1 + 1 + 1 + 1 + 1) = False ∧ (c_p = H.n + 1 + 1 + 1 + 1 + 1 + 1 + 1 + 1 + 1) = False ∧ (c_p = H.n + 1 + 1 + 1 + 1 + 1 + 1 + 1 + 1 + 1 + 1) = False ∧ (c_p = H.n + 1 + 1 + 1 + 1 + 1 + 1 + 1 + 1 + 1 + 1 + 1) = False ∧ (c_p = H.n + 1 + 1 + 1 + 1 + 1 + 1 + 1 + 1 + 1 + 1 + 1 + 1) = False := ⟨eq_false (by omega), eq_false (by omega), eq_false (by omega), eq_false (by omega), eq_false (by omega), eq_false (by omega), eq_false (by omega), eq_false (by omega), eq_false (by omega), eq_false (by omega), eq_false (by omega)⟩
  have hnq_c : (H.n = c_p) = False := eq_false (by omega)
  have hnq1_c : ∀ i, (H.n + i = c_p) = False := fun i => eq_false (by omega)
  have hnb_c : (H.n = b_c) = False := eq_false (by omega)
  have hnb1_c : ∀ i, (H.n + i = b_c) = False := fun i => eq_false (by omega)
  have hnr2_cp : (H.n + 1 + 1 = c_p) = False ∧ (H.n + 1 + 1 + 1 = c_p) = False ∧ (H.n + 1 + 1 + 1 + 1 = c_p) = False ∧ (H.n + 1 + 1 + 1 + 1 + 1 = c_p) = False ∧ (H.n + 1 + 1 + 1 + 1 + 1 + 1 = c_p) = False ∧ (H.n + 1 + 1 + 1 + 1 + 1 + 1 + 1 = c_p) = False ∧ (H.n + 1 + 1 + 1 + 1 + 1 + 1 + 1 + 1 = c_p) = False ∧ (H.n + 1 + 1 + 1 + 1 + 1 + 1 + 1 + 1 + 1 = c_p) = False ∧ (H.n + 1 + 1 + 1 + 1 + 1 + 1 + 1 + 1 + 1 + 1 = c_p) = False ∧ (H.n + 1 + 1 + 1 + 1 + 1 + 1 + 1 + 1 + 1 + 1 + 1 = c_p) = False ∧ (H.n + 1 + 1 + 1 + 1 + 1 + 1 + 1 + 1 + 1 + 1 + 1 + 1 = c_p) = False := ⟨eq_false (by omega), eq_false (by omega), eq_false (by omega), eq_false (by omega), eq_false (by omega), eq_false (by omega), eq_false (by omega), eq_false (by omega), eq_false (by omega), eq_false (by omega), eq_false (by omega)⟩
  have hnr2_c : (H.n + 1 + 1 = b_c) = False ∧ (H.n + 1 + 1 + 1 = b_c) = False ∧ (H.n + 1 + 1 + 1 + 1 = b_c) = False ∧ (H.n + 1 + 1 + 1 + 1 + 1 = b_c) = False ∧ (H.n + 1 + 1 + 1 + 1 + 1 + 1 = b_c) = False ∧ (H.n + 1 + 1 + 1 + 1 + 1 + 1 + 1 = b_c) = False ∧ (H.n + 1 + 1 + 1 + 1 + 1 + 1 + 1 + 1 = b_c) = False ∧ (H.n + 1 + 1 + 1 + 1 + 1 + 1 + 1 + 1 + 1 = b_c) = False ∧ (H.n + 1 + 1 + 1 + 1 + 1 + 1 + 1 + 1 + 1 + 1 = b_c) = False ∧ (H.n + 1 + 1 + 1 + 1 + 1 + 1 + 1 + 1 + 1 + 1 + 1 = b_c) = False ∧ (H.n + 1 + 1 + 1 + 1 + 1 + 1 + 1 + 1 + 1 + 1 + 1 + 1 = b_c) = False := ⟨eq_false (by omega), eq_false (by omega), eq_false (by omega), eq_false (by omega), eq_false (by omega), eq_false (by omega), eq_false (by omega), eq_false (by omega), eq_false (by omega), eq_false (by omega), eq_false (by omega)⟩
  have hmx_c : l_c.length ≤ 9223372036854775807 := by have h1 := (hwf b_c k_c hat_c.blk).2.2; have h2 := hat_c.len; omega
  have hpc_ps : (b_ps = c_p) = False := eq_false (fun e => by have h1 := hat_ps.blk; rw [e, hk_c] at h1; have h2 := hat_ps.esz; rw [← Option.some.inj h1] at h2; cases h2)
  have hpd_ps : (c_p = b_ps) = False := eq_false (fun e => of_eq_true (eq_self False) |> fun _ => (of_eq_false hpc_ps) e.symm)
  obtain ⟨hne0, h⟩ := h
  have hn1 : 0 < ps.length := List.length_pos_iff.2 hne0
  simp (config := {contextual := true, implicitDefEqProofs := false, maxSteps := 2000000}) [-Int.not_le, -Int.not_lt, argsF, __spec_l1Cur__among_c, hat_ps.blk, hat_ps.esz, hat_ps.len, hat_ps.els, hne_ps, hne1_ps, hne2_ps.1, hne2_ps.2.1, hne2_ps.2.2.1, hne2_ps.2.2.2.1, hne2_ps.2.2.2.2.1, hne2_ps.2.2.2.2.2.1, hne2_ps.2.2.2.2.2.2.1, hne2_ps.2.2.2.2.2.2.2.1, hne2_ps.2.2.2.2.2.2.2.2.1, hne2_ps.2.2.2.2.2.2.2.2.2.1, hne2_ps.2.2.2.2.2.2.2.2.2.2, onCur, dlI, dlT, hk_c, hcb_c, hbc_c, hbd_c, h0_c, hlim_c, hat_c.blk, hat_c.esz, hat_c.len, hat_c.els, hne_c, hnp_c, hne1_c, hnp1_c, hnq_c, hnq1_c, hnb_c, hnb1_c, hne2_c.1, hne2_c.2.1, hne2_c.2.2.1, hne2_c.2.2.2.1, hne2_c.2.2.2.2.1, hne2_c.2.2.2.2.2.1, hne2_c.2.2.2.2.2.2.1, hne2_c.2.2.2.2.2.2.2.1, hne2_c.2.2.2.2.2.2.2.2.1, hne2_c.2.2.2.2.2.2.2.2.2.1, hne2_c.2.2.2.2.2.2.2.2.2.2, hne2_cp.1, hne2_cp.2.1, hne2_cp.2.2.1, hne2_cp.2.2.2.1, hne2_cp.2.2.2.2.1, hne2_cp.2.2.2.2.2.1, hne2_cp.2.2.2.2.2.2.1, hne2_cp.2.2.2.2.2.2.2.1, hne2_cp.2.2.2.2.2.2.2.2.1, hne2_cp.2.2.2.2.2.2.2.2.2.1, hne2_cp.2.2.2.2.2.2.2.2.2.2, hnr2_c.1, hnr2_c.2.1, hnr2_c.2.2.1, hnr2_c.2.2.2.1, hnr2_c.2.2.2.2.1, hnr2_c.2.2.2.2.2.1, hnr2_c.2.2.2.2.2.2.1, hnr2_c.2.2.2.2.2.2.2.1, hnr2_c.2.2.2.2.2.2.2.2.1, hnr2_c.2.2.2.2.2.2.2.2.2.1, hnr2_c.2.2.2.2.2.2.2.2.2.2, hnr2_cp.1, hnr2_cp.2.1, hnr2_cp.2.2.1, hnr2_cp.2.2.2.1, hnr2_cp.2.2.2.2.1, hnr2_cp.2.2.2.2.2.1, hnr2_cp.2.2.2.2.2.2.1, hnr2_cp.2.2.2.2.2.2.2.1, hnr2_cp.2.2.2.2.2.2.2.2.1, hnr2_cp.2.2.2.2.2.2.2.2.2.1, hnr2_cp.2.2.2.2.2.2.2.2.2.2, hpc_ps, hpd_ps]
  refine Stop.mk fun x a1 s1 hl hu hx => ?_
  have hx2 : x < ps.length := by have := hx (by omega); omega
  have e1 := hat_ps.get hx2
  have hj1 := idx_lt hx2
  simp (config := {contextual := true, implicitDefEqProofs := false, maxSteps := 2000000}) [-Int.not_le, -Int.not_lt, argsF, __spec_l1Cur__among_c, hat_ps.blk, hat_ps.esz, hat_ps.len, hat_ps.els, hne_ps, hne1_ps, hne2_ps.1, hne2_ps.2.1, hne2_ps.2.2.1, hne2_ps.2.2.2.1, hne2_ps.2.2.2.2.1, hne2_ps.2.2.2.2.2.1, hne2_ps.2.2.2.2.2.2.1, hne2_ps.2.2.2.2.2.2.2.1, hne2_ps.2.2.2.2.2.2.2.2.1, hne2_ps.2.2.2.2.2.2.2.2.2.1, hne2_ps.2.2.2.2.2.2.2.2.2.2, onCur, dlI, dlT, hk_c, hcb_c, hbc_c, hbd_c, h0_c, hlim_c, hat_c.blk, hat_c.esz, hat_c.len, hat_c.els, hne_c, hnp_c, hne1_c, hnp1_c, hnq_c, hnq1_c, hnb_c, hnb1_c, hne2_c.1, hne2_c.2.1, hne2_c.2.2.1, hne2_c.2.2.2.1, hne2_c.2.2.2.2.1, hne2_c.2.2.2.2.2.1, hne2_c.2.2.2.2.2.2.1, hne2_c.2.2.2.2.2.2.2.1, hne2_c.2.2.2.2.2.2.2.2.1, hne2_c.2.2.2.2.2.2.2.2.2.1, hne2_c.2.2.2.2.2.2.2.2.2.2, hne2_cp.1, hne2_cp.2.1, hne2_cp.2.2.1, hne2_cp.2.2.2.1, hne2_cp.2.2.2.2.1, hne2_cp.2.2.2.2.2.1, hne2_cp.2.2.2.2.2.2.1, hne2_cp.2.2.2.2.2.2.2.1, hne2_cp.2.2.2.2.2.2.2.2.1, hne2_cp.2.2.2.2.2.2.2.2.2.1, hne2_cp.2.2.2.2.2.2.2.2.2.2, hnr2_c.1, hnr2_c.2.1, hnr2_c.2.2.1, hnr2_c.2.2.2.1, hnr2_c.2.2.2.2.1, hnr2_c.2.2.2.2.2.1, hnr2_c.2.2.2.2.2.2.1, hnr2_c.2.2.2.2.2.2.2.1, hnr2_c.2.2.2.2.2.2.2.2.1, hnr2_c.2.2.2.2.2.2.2.2.2.1, hnr2_c.2.2.2.2.2.2.2.2.2.2, hnr2_cp.1, hnr2_cp.2.1, hnr2_cp.2.2.1, hnr2_cp.2.2.2.1, hnr2_cp.2.2.2.2.1, hnr2_cp.2.2.2.2.2.1, hnr2_cp.2.2.2.2.2.2.1, hnr2_cp.2.2.2.2.2.2.2.1, hnr2_cp.2.2.2.2.2.2.2.2.1, hnr2_cp.2.2.2.2.2.2.2.2.2.1, hnr2_cp.2.2.2.2.2.2.2.2.2.2, hpc_ps, hpd_ps, hx2, e1, hj1]
  exact .old (H := H.set c_p _) (cur_wf hwf hk_c _ _) (.refl _) (by simp [frOk, AV.okR, AV.ok1, AC.okR, AV.ren, AV.ren1, AC.ren, AFrame.get, pl1_old, *]; first | done | rfl | omega) (Stop.out h _ a1 s1 (List.getElem_mem hx2) hl hu)

theorem aloop_genC {P : Program} {N n0 : Nat} {body : ACode} {F : AFrame} {H : AHeap} {Q : Exit → AFrame → AHeap → Prop} (R : AHeap → Prop) (h : R H) (f : ∀ G, R G → ALoop P N n0 body F G Q) : ALoop P N n0 body F H Q := f H h
theorem avc_gen {P : Program} {Γ : Env} {N n0 : Nat} {a : ACode} {F : AFrame} {H : AHeap} {Q : Exit → AFrame → AHeap → Prop} (R : AHeap → Prop) (h : R H) (f : ∀ G, R G → avc P Γ N n0 a F G Q) : avc P Γ N n0 a F H Q := f H h

end Go.Proofs.Ytjiffkjeijfilaa
