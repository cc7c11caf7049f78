/- The cursor that the draws read. The draws of the sightings: traits. The draws of FnSightings. -/
import Derived.Test.YtafenginfojcmaaGreatDoorNest
import Derived.Test.YtafenginfojcmaaGreatDoorSiE
import Derived.Test.YtafenginfojcmaaGreatDoorSiG
import Derived.Test.YtafenginfojcmaaGreatDoorSiC2
set_option maxRecDepth 8000
set_option linter.unusedSimpArgs false
set_option linter.unusedVariables false
namespace Go.Proofs.YtafenginfojcmaaGreatDoor
open Go Go.RowKit

set_option maxHeartbeats 2000000
/-- the cursor: its bytes, how far it has read, its seed -/
def curK (b i n : Nat) (a s : Int) : ABlk := ⟨67, 3, false, false, [[.sl b i n, .int .i64 a, .int .u64 s]]⟩
def curOf (k : ABlk) : Option (Nat × Nat × Nat × Int × Int) := if k.ty = 67 ∧ k.esz = 3 ∧ k.ro = false ∧ k.fz = false then (match k.els with
  | [[.sl b i n, .int .i64 a, .int .u64 s]] => some (b, i, n, a, s)
  | _ => none) else none
theorem curOf_eq {k : ABlk} {b i n : Nat} {a s : Int} (h : curOf k = some (b, i, n, a, s)) : k = curK b i n a s := by
  unfold curOf at h
  split at h
  · rename_i hc
    split at h
    · rename_i he
      cases k
      cases h
      obtain ⟨h1, h2, h3, h4⟩ := hc
      simp only at h1 h2 h3 h4 he
      subst h1 h2 h3 h4 he
      rfl
    · cases h
  · cases h
@[simp] theorem curOf_K (b i n : Nat) (a s : Int) : curOf (curK b i n a s) = some (b, i, n, a, s) := rfl
theorem curOf_lit (b i n : Nat) (a s : Int) : curOf ⟨67, 3, false, false, [[.sl b i n, .int .i64 a, .int .u64 s]]⟩ = some (b, i, n, a, s) := rfl
@[simp] theorem curK_els (b i n : Nat) (a s : Int) : (curK b i n a s).els = [[.sl b i n, .int .i64 a, .int .u64 s]] := rfl
@[simp] theorem curK_esz (b i n : Nat) (a s : Int) : (curK b i n a s).esz = 3 := rfl
@[simp] theorem curK_ty (b i n : Nat) (a s : Int) : (curK b i n a s).ty = 67 := rfl
@[simp] theorem curK_ro (b i n : Nat) (a s : Int) : (curK b i n a s).ro = false := rfl
@[simp] theorem curK_fz (b i n : Nat) (a s : Int) : (curK b i n a s).fz = false := rfl
/-- bytes in a row -/
def eU : Enc UInt8 where
  n := 1
  cells x := [.int .u8 x.toNat]
  dec e := match e with
    | [.int .u8 a] => if 0 ≤ a ∧ a < 256 then some (UInt8.ofNat a.toNat) else none
    | _ => none
  dc x := by
    have h : (0 : Int) ≤ x.toNat ∧ (x.toNat : Int) < 256 := ⟨by omega, by have := x.toNat_lt; omega⟩
    simp only [h, and_self, if_true, Int.toNat_natCast, UInt8.ofNat_toNat]
  cd e p h := by
    split at h
    · rename_i a
      split at h
      · rename_i hc
        cases h
        have : ((UInt8.ofNat a.toNat).toNat : Int) = a := by
          rw [UInt8.toNat_ofNat_of_lt' (by have : UInt8.size = 256 := rfl; omega)]
          omega
        rw [this]
      · cases h
    · cases h
  len _ := rfl
@[simp] theorem eU_n : eU.n = 1 := (rfl)
@[simp] theorem eU_cells (x : UInt8) : eU.cells x = [.int .u8 x.toNat] := (rfl)
/-- what a draw may do with the cursor at c, from 0 ≤ a on in at most m steps -/
def CurAt (H : AHeap) (c b i n : Nat) (a s : Int) : Prop := H.b c = some (curK b i n a s) ∧ c ≠ b ∧ 0 ≤ a ∧ onv (H.b b) fun k => k.esz = 1 ∧ i + n ≤ k.els.length ∧ onv (eU.decL ((k.els.drop i).take n)) fun _ => True
/-- the cursor's contract: K stands for what follows -/
def onCur (H : AHeap) (c : Nat) (lim : Int) (K : Nat → Nat → Nat → Int → Int → Prop) : Prop := onv (H.b c) fun k => onv (curOf k) fun x => c ≠ x.1 ∧ 0 ≤ x.2.2.2.1 ∧ x.2.2.2.1 ≤ lim ∧ (onv (H.b x.1) fun k => k.esz = 1 ∧ x.2.1 + x.2.2.1 ≤ k.els.length ∧ onv (eU.decL ((k.els.drop x.2.1).take x.2.2.1)) fun _ => True) ∧ K x.1 x.2.1 x.2.2.1 x.2.2.2.1 x.2.2.2.2
theorem onCur_iff {H : AHeap} {c : Nat} {lim : Int} {K : Nat → Nat → Nat → Int → Int → Prop} : onCur H c lim K ↔ ∃ (b i n : Nat) (a s : Int) (k : ABlk) (l : List UInt8), H.b c = some (curK b i n a s) ∧ c ≠ b ∧ 0 ≤ a ∧ a ≤ lim ∧ eU.At H b i k l ∧ l.length = n ∧ K b i n a s := by
  constructor
  · intro h
    obtain ⟨k, hk, h⟩ := onv_iff.1 h
    obtain ⟨⟨b, i, n, a, s⟩, hx, h1, h2, h3, h4, h5⟩ := onv_iff.1 h
    obtain rfl := curOf_eq hx
    obtain ⟨kb, hkb, e1, e2, h4⟩ := onv_iff.1 h4
    obtain ⟨l, hl, _⟩ := onv_iff.1 h4
    have e3 := Enc.decL_eq eU hl
    have e4 := congrArg List.length e3
    simp only [List.length_take, List.length_drop, List.length_map] at e4
    have e5 : l.length = n := by simp only at e2 e4; omega
    simp only at e2 e3
    exact ⟨b, i, n, a, s, kb, l, hk, h1, h2, h3, ⟨hkb, e1, by omega, by rw [e5]; exact e3⟩, e5, h5⟩
  · rintro ⟨b, i, n, a, s, k, l, hk, h1, h2, h3, hat, rfl, h5⟩
    refine onv_iff.2 ⟨_, hk, onv_iff.2 ⟨_, curOf_K b i l.length a s, h1, h2, h3, onv_iff.2 ⟨k, hat.blk, hat.esz, hat.len, onv_iff.2 ⟨l, ?_, trivial⟩⟩, h5⟩⟩
    have := hat.els
    simp only
    rw [this]
    exact Enc.decL_map eU l
theorem dlI (x : Int) (L : List (List AC)) : eI.decL ([.int .i64 x] :: L) = (eI.decL L).map (x :: ·) := by
  simp only [Enc.decL, eI_dec]; cases eI.decL L <;> rfl
theorem dlT (x : List UInt8) (L : List (List AC)) : eT.decL ([.str x] :: L) = (eT.decL L).map (x :: ·) := by
  simp only [Enc.decL, eT_dec]; cases eT.decL L <;> rfl
theorem wrapU (n : Int) : 0 ≤ IntKind.u64.wrap n ∧ IntKind.u64.wrap n < 18446744073709551616 := by
  have h0 : (2 : Int) ^ 64 = 18446744073709551616 := by decide
  simp only [IntKind.wrap, IntKind.bits, IntKind.signed, h0, Bool.false_and]
  exact ⟨Int.emod_nonneg _ (by omega), Int.emod_lt_of_pos _ (by omega)⟩

theorem cur_wf {H : AHeap} (hwf : H.WF) {c b i n : Nat} {a s : Int} (h : H.b c = some (curK b i n a s)) (a' s' : Int) : (H.set c (curK b i n a' s')).WF := WF.set hwf h (fun e he x hx => by
  have h1 := (hwf c _ h).2.1 [.sl b i n, .int .i64 a, .int .u64 s] (by simp [curK])
  simp only [curK_els, List.mem_singleton] at he
  subst he
  rcases List.mem_cons.1 hx with rfl | hx
  · exact h1 _ (by simp)
  · rcases List.mem_cons.1 hx with rfl | hx
    · trivial
    · rw [List.mem_singleton.1 hx]; trivial) (by simp)
theorem cur_self {H : AHeap} {c b i n : Nat} {a s : Int} (h : H.b c = some (curK b i n a s)) : H.set c (curK b i n a s) = H := set_self h
/-- what stands below stays, but for the cursor -/
theorem cur_sub {H : AHeap} (hwf : H.WF) {c b i n : Nat} {a s : Int} (h : H.b c = some (curK b i n a s)) {a' s' : Int} {F : AHeap} (hn : H.n ≤ F.n) (hI : F.I = H.I) (hc : F.b c = some (curK b i n a' s')) (ho : ∀ j, j < H.n → j ≠ c → F.b j = H.b j) : Sub (H.set c (curK b i n a' s')) F := ⟨⟨by simpa using hn, fun j k hj => by
  rw [set_b] at hj
  split at hj
  · rename_i e; subst e; rw [hc]; exact hj
  · rename_i e; rw [ho j (hwf j k hj).1 e]; exact hj⟩, by simpa using hI.symm⟩
theorem wrapU_id {n : Int} (h1 : 0 ≤ n) (h2 : n < 18446744073709551616) : IntKind.u64.wrap n = n := by
  have h0 : (2 : Int) ^ 64 = 18446744073709551616 := by decide
  simp only [IntKind.wrap, IntKind.bits, IntKind.signed, h0, Bool.false_and]
  simp
  omega
theorem and255 (v : BitVec 64) : (v &&& BitVec.ofInt 64 255).toNat < 256 := by
  have h : (BitVec.ofInt 64 255).toNat = 255 := by decide
  rw [BitVec.toNat_and, h]
  have := Nat.and_le_right (n := v.toNat) (m := 255)
  omega
@[simp] theorem pl1_set (H : AHeap) (i : Nat) (k : ABlk) (c : Option Nat) : pl1 (H.set i k) c = pl1 H c := rfl
/-- a cursor made anew: it draws, and is forgotten -/
theorem new_sub {H F : AHeap} (hwf : H.WF) (hn : H.n ≤ F.n) (hI : F.I = H.I) (ho : ∀ j, j < H.n → F.b j = H.b j) : Sub H F := ⟨⟨hn, fun j k hj => by rw [ho j (hwf j k hj).1]; exact hj⟩, hI.symm⟩
theorem b256 (b : UInt8) : (b.toNat : Int) < 256 := by have := b.toNat_lt; omega

def q_cnext : Con := fun args H K => match args with
  | [.c (.ptr c_p 0 0)] => onCur H c_p 1000000000 fun b_c i_c n_c a_c s_c => ∀ (x : Nat) (s' : Int), x < 256 → K (.c (.int .i64 ((x : Int)))) (H.set c_p (curK b_c i_c n_c (a_c + 1) s'))
  | _ => False
@[simp ↓] theorem q_cnext_eq (c_p : Nat) (H : AHeap) (K : AV → AHeap → Prop) : q_cnext [.c (.ptr c_p 0 0)] H K = (onCur H c_p 1000000000 fun b_c i_c n_c a_c s_c => ∀ (x : Nat) (s' : Int), x < 256 → K (.c (.int .i64 ((x : Int)))) (H.set c_p (curK b_c i_c n_c (a_c + 1) s'))) := rfl

theorem spec_l1Cur__next_s : Sound Tryz.prog 88 q_cnext := by
  intro args H K h
  unfold q_cnext at h
  split at h
  rotate_left
  all_goals first | exact False.elim h | skip
  rename_i c_p
  have h1 := onCur_iff.1 h
  clear h
  obtain ⟨b_c, i_c, n_c, a_c, s_c, k_c, l_c, hk_c, hcb_c, h0_c, hlim_c, hat_c, rfl, h⟩ := h1
  have hE := soundE_nil (P := Tryz.prog)
  refine acalls_fn __spec_l1Cur__next_k hE ⟨by simp, fun hwf => ?_⟩
  have hb_c : b_c < H.n := (hwf b_c k_c hat_c.blk).1
  have hp_c : c_p < H.n := (hwf c_p _ hk_c).1
  have hbc_c : (b_c = c_p) = False := eq_false (Ne.symm hcb_c)
  have hbd_c : (c_p = b_c) = False := eq_false hcb_c
  have hne_c : (b_c = H.n) = False := eq_false (by omega)
  have hnp_c : (c_p = H.n) = False := eq_false (by omega)
  have hne1_c : ∀ i, (b_c = H.n + i) = False := fun i => eq_false (by omega)
  have hnp1_c : ∀ i, (c_p = H.n + i) = False := fun i => eq_false (by omega)
  have hne2_c := ne2_of (a := b_c) (b := H.n) (by omega)
  have hne2_cp := ne2_of (a := c_p) (b := H.n) (by omega)
  have hnq_c : (H.n = c_p) = False := eq_false (by omega)
  have hnq1_c : ∀ i, (H.n + i = c_p) = False := fun i => eq_false (by omega)
  have hnb_c : (H.n = b_c) = False := eq_false (by omega)
  have hnb1_c : ∀ i, (H.n + i = b_c) = False := fun i => eq_false (by omega)
  have hnr2_cp := nr2_of (a := c_p) (b := H.n) (by omega)
  have hnr2_c := nr2_of (a := b_c) (b := H.n) (by omega)
  have hmx_c : l_c.length ≤ 9223372036854775807 := by have h1 := (hwf b_c k_c hat_c.blk).2.2; have h2 := hat_c.len; omega
  have w1 : IntKind.i64.wrap (a_c + 1) = a_c + 1 := wrap_id (by omega) (by omega)
  by_cases hlt : a_c < (l_c.length : Int)
  · have hlt2 : a_c.toNat < l_c.length := by omega
    have eg := hat_c.get hlt2
    rw [eU_cells] at eg
    have hx := b256 l_c[a_c.toNat]
    have w2 : IntKind.i64.wrap (l_c[a_c.toNat].toNat : Int) = (l_c[a_c.toNat].toNat : Int) := wrap_id (by omega) (by omega)
    have g1 : a_c + 1 ≤ (l_c.length : Int) := by omega
    simp (config := {contextual := true, implicitDefEqProofs := false, maxSteps := 2000000}) [-Int.not_le, -Int.not_lt, argsF, __spec_l1Cur__next_c, onCur, dlI, dlT, hk_c, hcb_c, hbc_c, hbd_c, h0_c, hlim_c, hat_c.blk, hat_c.esz, hat_c.len, hat_c.els, hne_c, hnp_c, hne1_c, hnp1_c, hnq_c, hnq1_c, hnb_c, hnb1_c, hne2_c, hne2_cp, hnr2_c, hnr2_cp, w1, hlt, hlt2, eg, w2, g1]
    exact .old (H := H.set c_p _) (cur_wf hwf hk_c _ _) (.refl _) (by simp [frOk, AV.okR, AV.ok1, AC.okR, AV.ren, AV.ren1, AC.ren, AFrame.get, pl1_old, *]; first | done | rfl | omega) (h l_c[a_c.toNat].toNat _ (by omega))
  · have g1 : ¬ a_c + 1 ≤ (l_c.length : Int) := by omega
    simp (config := {contextual := true, implicitDefEqProofs := false, maxSteps := 2000000}) [-Int.not_le, -Int.not_lt, argsF, __spec_l1Cur__next_c, onCur, dlI, dlT, hk_c, hcb_c, hbc_c, hbd_c, h0_c, hlim_c, hat_c.blk, hat_c.esz, hat_c.len, hat_c.els, hne_c, hnp_c, hne1_c, hnp1_c, hnq_c, hnq1_c, hnb_c, hnb1_c, hne2_c, hne2_cp, hnr2_c, hnr2_cp, w1, hlt, g1]
    generalize IntKind.u64.wrap (IntKind.u64.wrap (IntKind.u64.wrap (s_c * 6364136223846793005) + IntKind.u64.wrap 0) + 381907) = s2
    have hy : ∀ z : Nat, z &&& 255 % 2 ^ IntKind.u64.bits < 256 := fun z => by
      rw [show (255 % 2 ^ IntKind.u64.bits : Nat) = 255 by decide]
      have := Nat.and_le_right (n := z) (m := 255)
      omega
    have hyy := hy (s2.fdiv (2 ^ min 40 IntKind.u64.bits) % 2 ^ IntKind.u64.bits).toNat
    generalize ((s2.fdiv (2 ^ min 40 IntKind.u64.bits) % 2 ^ IntKind.u64.bits).toNat &&& 255 % 2 ^ IntKind.u64.bits : Nat) = y at hyy ⊢
    rw [wrapU_id (by omega) (by omega), wrap_id (by omega) (by omega)]
    exact .old (H := H.set c_p _) (cur_wf hwf hk_c _ _) (.refl _) (by simp [frOk, AV.okR, AV.ok1, AC.okR, AV.ren, AV.ren1, AC.ren, AFrame.get, pl1_old, *]; first | done | rfl | omega) (h y _ hyy)

theorem Stop.out {X : Prop} {u : UnitOf X} (h : Stop X u) : X := h
theorem pick_mod (x n : Nat) (hn : 1 < n) : (x : Int).tmod (n : Int) = ((x % n : Nat) : Int) := by
  rw [Int.tmod_eq_emod_of_nonneg (by omega)]; omega
/-- what follows a draw from n -/
def drawnK (n : Int) (x : Nat) : Prop := 1 ≤ n → (x : Int) < n

def q_cpick : Con := fun args H K => match args with
  | [.c (.ptr c_p 0 0), .c (.int .i64 n)] => onCur H c_p 900000000 fun b_c i_c n_c a_c s_c => Stop (∀ (x : Nat) (a' s' : Int), a_c ≤ a' → a' ≤ a_c + 2 → drawnK n x → K (.c (.int .i64 ((x : Int)))) (H.set c_p (curK b_c i_c n_c a' s'))) ()
  | _ => False
@[simp ↓] theorem q_cpick_eq (c_p : Nat) (n : Int) (H : AHeap) (K : AV → AHeap → Prop) : q_cpick [.c (.ptr c_p 0 0), .c (.int .i64 n)] H K = (onCur H c_p 900000000 fun b_c i_c n_c a_c s_c => Stop (∀ (x : Nat) (a' s' : Int), a_c ≤ a' → a' ≤ a_c + 2 → drawnK n x → K (.c (.int .i64 ((x : Int)))) (H.set c_p (curK b_c i_c n_c a' s'))) ()) := rfl

theorem spec_l1Cur__pick_s : Sound Tryz.prog 68 q_cpick := by
  intro args H K h
  unfold q_cpick at h
  split at h
  rotate_left
  all_goals first | exact False.elim h | skip
  rename_i c_p n
  have h1 := onCur_iff.1 h
  clear h
  obtain ⟨b_c, i_c, n_c, a_c, s_c, k_c, l_c, hk_c, hcb_c, h0_c, hlim_c, hat_c, rfl, h⟩ := h1
  have hE := soundE_cons spec_l1Cur__next_s (soundE_nil (P := Tryz.prog))
  refine acalls_fn __spec_l1Cur__pick_k hE ⟨by simp, fun hwf => ?_⟩
  have hb_c : b_c < H.n := (hwf b_c k_c hat_c.blk).1
  have hp_c : c_p < H.n := (hwf c_p _ hk_c).1
  have hbc_c : (b_c = c_p) = False := eq_false (Ne.symm hcb_c)
  have hbd_c : (c_p = b_c) = False := eq_false hcb_c
  have hne_c : (b_c = H.n) = False := eq_false (by omega)
  have hnp_c : (c_p = H.n) = False := eq_false (by omega)
  have hne1_c : ∀ i, (b_c = H.n + i) = False := fun i => eq_false (by omega)
  have hnp1_c : ∀ i, (c_p = H.n + i) = False := fun i => eq_false (by omega)
  have hne2_c := ne2_of (a := b_c) (b := H.n) (by omega)
  have hne2_cp := ne2_of (a := c_p) (b := H.n) (by omega)
  have hnq_c : (H.n = c_p) = False := eq_false (by omega)
  have hnq1_c : ∀ i, (H.n + i = c_p) = False := fun i => eq_false (by omega)
  have hnb_c : (H.n = b_c) = False := eq_false (by omega)
  have hnb1_c : ∀ i, (H.n + i = b_c) = False := fun i => eq_false (by omega)
  have hnr2_cp := nr2_of (a := c_p) (b := H.n) (by omega)
  have hnr2_c := nr2_of (a := b_c) (b := H.n) (by omega)
  have hmx_c : l_c.length ≤ 9223372036854775807 := by have h1 := (hwf b_c k_c hat_c.blk).2.2; have h2 := hat_c.len; omega
  have hl9 : a_c ≤ 1000000000 := by omega
  by_cases h1 : n ≤ 1
  · simp (config := {contextual := true, implicitDefEqProofs := false, maxSteps := 2000000}) [-Int.not_le, -Int.not_lt, argsF, __spec_l1Cur__pick_c, onCur, dlI, dlT, hk_c, hcb_c, hbc_c, hbd_c, h0_c, hlim_c, hat_c.blk, hat_c.esz, hat_c.len, hat_c.els, hne_c, hnp_c, hne1_c, hnp1_c, hnq_c, hnq1_c, hnb_c, hnb1_c, hne2_c, hne2_cp, hnr2_c, hnr2_cp, h1]
    have h2 := Stop.out h 0 a_c s_c (Int.le_refl _) (by omega) (fun h3 => by omega)
    rw [cur_self hk_c] at h2
    (refine Out.plain hwf ?_ rfl ?_; (repeat first | exact Sub.refl _ | refine Sub.push hwf ?_ _ | refine Sub.set hwf ?_ (by first | exact Nat.le_refl _ | omega | (simp only [push_n, set_n, kill_n]; omega)) _ | refine Sub.kill hwf ?_ (by first | exact Nat.le_refl _ | omega | (simp only [push_n, set_n, kill_n]; omega)))); exact h2
  have hn0 : ¬ n = 0 := by omega
  obtain ⟨m, rfl⟩ : ∃ m : Nat, n = (m : Int) := ⟨n.toNat, by omega⟩
  by_cases h2 : 200 < (m : Int)
  · simp (config := {contextual := true, implicitDefEqProofs := false, maxSteps := 2000000}) [-Int.not_le, -Int.not_lt, argsF, __spec_l1Cur__pick_c, onCur, dlI, dlT, hk_c, hcb_c, hbc_c, hbd_c, h0_c, hlim_c, hat_c.blk, hat_c.esz, hat_c.len, hat_c.els, hne_c, hnp_c, hne1_c, hnp1_c, hnq_c, hnq1_c, hnb_c, hnb1_c, hne2_c, hne2_cp, hnr2_c, hnr2_cp, h1, h2, hl9, hn0]
    intro x hx
    refine ⟨by omega, by omega, fun y s2 hy => ⟨by omega, ?_⟩⟩
    rw [wrap_id (n := (x : Int) * 256) (by omega) (by omega), wrap_id (by omega) (by omega), show ((x : Int) * 256 + (y : Int)) = ((x * 256 + y : Nat) : Int) by omega, pick_mod _ m (by omega)]
    exact .old (H := H.set c_p _) (cur_wf hwf hk_c _ _) (.refl _) (by simp [frOk, AV.okR, AV.ok1, AC.okR, AV.ren, AV.ren1, AC.ren, AFrame.get, pl1_old, *]; first | done | rfl | omega) (Stop.out h ((x * 256 + y) % m) _ _ (by omega) (by omega) (fun _ => by have := Nat.mod_lt (x * 256 + y) (show 0 < m by omega); omega))
  · simp (config := {contextual := true, implicitDefEqProofs := false, maxSteps := 2000000}) [-Int.not_le, -Int.not_lt, argsF, __spec_l1Cur__pick_c, onCur, dlI, dlT, hk_c, hcb_c, hbc_c, hbd_c, h0_c, hlim_c, hat_c.blk, hat_c.esz, hat_c.len, hat_c.els, hne_c, hnp_c, hne1_c, hnp1_c, hnq_c, hnq1_c, hnb_c, hnb1_c, hne2_c, hne2_cp, hnr2_c, hnr2_cp, h1, h2, hl9, hn0]
    intro x s1 hx
    refine ⟨by omega, ?_⟩
    rw [pick_mod _ m (by omega)]
    exact .old (H := H.set c_p _) (cur_wf hwf hk_c _ _) (.refl _) (by simp [frOk, AV.okR, AV.ok1, AC.okR, AV.ren, AV.ren1, AC.ren, AFrame.get, pl1_old, *]; first | done | rfl | omega) (Stop.out h (x % m) _ _ (by omega) (by omega) (fun _ => by have := Nat.mod_lt x (show 0 < m by omega); omega))

def q_one : Con := fun args H K => match args with
  | [.c (.ptr c_p 0 0), .c (.int .i64 n)] => onCur H c_p 900000000 fun b_c i_c n_c a_c s_c => Stop (∀ (x : Bool) (a' s' : Int), a_c ≤ a' → a' ≤ a_c + 2 → K (.c (.bool (x))) (H.set c_p (curK b_c i_c n_c a' s'))) ()
  | _ => False
@[simp ↓] theorem q_one_eq (c_p : Nat) (n : Int) (H : AHeap) (K : AV → AHeap → Prop) : q_one [.c (.ptr c_p 0 0), .c (.int .i64 n)] H K = (onCur H c_p 900000000 fun b_c i_c n_c a_c s_c => Stop (∀ (x : Bool) (a' s' : Int), a_c ≤ a' → a' ≤ a_c + 2 → K (.c (.bool (x))) (H.set c_p (curK b_c i_c n_c a' s'))) ()) := rfl

theorem spec_l1Cur__one_s : Sound Tryz.prog 69 q_one := by
  intro args H K h
  unfold q_one at h
  split at h
  rotate_left
  all_goals first | exact False.elim h | skip
  rename_i c_p n
  have h1 := onCur_iff.1 h
  clear h
  obtain ⟨b_c, i_c, n_c, a_c, s_c, k_c, l_c, hk_c, hcb_c, h0_c, hlim_c, hat_c, rfl, h⟩ := h1
  have hE := soundE_cons spec_l1Cur__pick_s (soundE_nil (P := Tryz.prog))
  refine acalls_fn __spec_l1Cur__one_k hE ⟨by simp, fun hwf => ?_⟩
  have hb_c : b_c < H.n := (hwf b_c k_c hat_c.blk).1
  have hp_c : c_p < H.n := (hwf c_p _ hk_c).1
  have hbc_c : (b_c = c_p) = False := eq_false (Ne.symm hcb_c)
  have hbd_c : (c_p = b_c) = False := eq_false hcb_c
  have hne_c : (b_c = H.n) = False := eq_false (by omega)
  have hnp_c : (c_p = H.n) = False := eq_false (by omega)
  have hne1_c : ∀ i, (b_c = H.n + i) = False := fun i => eq_false (by omega)
  have hnp1_c : ∀ i, (c_p = H.n + i) = False := fun i => eq_false (by omega)
  have hne2_c := ne2_of (a := b_c) (b := H.n) (by omega)
  have hne2_cp := ne2_of (a := c_p) (b := H.n) (by omega)
  have hnq_c : (H.n = c_p) = False := eq_false (by omega)
  have hnq1_c : ∀ i, (H.n + i = c_p) = False := fun i => eq_false (by omega)
  have hnb_c : (H.n = b_c) = False := eq_false (by omega)
  have hnb1_c : ∀ i, (H.n + i = b_c) = False := fun i => eq_false (by omega)
  have hnr2_cp := nr2_of (a := c_p) (b := H.n) (by omega)
  have hnr2_c := nr2_of (a := b_c) (b := H.n) (by omega)
  have hmx_c : l_c.length ≤ 9223372036854775807 := by have h1 := (hwf b_c k_c hat_c.blk).2.2; have h2 := hat_c.len; omega
  simp (config := {contextual := true, implicitDefEqProofs := false, maxSteps := 2000000}) [-Int.not_le, -Int.not_lt, argsF, __spec_l1Cur__one_c, onCur, dlI, dlT, hk_c, hcb_c, hbc_c, hbd_c, h0_c, hlim_c, hat_c.blk, hat_c.esz, hat_c.len, hat_c.els, hne_c, hnp_c, hne1_c, hnp1_c, hnq_c, hnq1_c, hnb_c, hnb1_c, hne2_c, hne2_cp, hnr2_c, hnr2_cp]
  refine Stop.mk fun x a1 s1 hl hu hx => ?_
  simp (config := {contextual := true, implicitDefEqProofs := false, maxSteps := 2000000}) [-Int.not_le, -Int.not_lt, argsF, __spec_l1Cur__one_c]
  exact .old (H := H.set c_p _) (cur_wf hwf hk_c _ _) (.refl _) (by simp [frOk, AV.okR, AV.ok1, AC.okR, AV.ren, AV.ren1, AC.ren, AFrame.get, pl1_old, *]; first | done | rfl | omega) (Stop.out h _ a1 s1 hl hu)

def q_among : Con := fun args H K => match args with
  | [.c (.ptr c_p 0 0), ps_v] => onCur H c_p 900000000 fun b_c i_c n_c a_c s_c => eI.rd H (fun ps => ¬ ps = [] ∧ Stop (∀ (x a' s' : Int), x ∈ ps → a_c ≤ a' → a' ≤ a_c + 2 → K (.c (.int .i64 (x))) (H.set c_p (curK b_c i_c n_c a' s'))) ()) ps_v
  | _ => False
@[simp ↓] theorem q_among_eq (c_p : Nat) (ps_v : AV) (H : AHeap) (K : AV → AHeap → Prop) : q_among [.c (.ptr c_p 0 0), ps_v] H K = (onCur H c_p 900000000 fun b_c i_c n_c a_c s_c => eI.rd H (fun ps => ¬ ps = [] ∧ Stop (∀ (x a' s' : Int), x ∈ ps → a_c ≤ a' → a' ≤ a_c + 2 → K (.c (.int .i64 (x))) (H.set c_p (curK b_c i_c n_c a' s'))) ()) ps_v) := rfl

def q_of : Con := fun args H K => match args with
  | [.c (.ptr c_p 0 0), ps_v] => onCur H c_p 900000000 fun b_c i_c n_c a_c s_c => eT.rd H (fun ps => ¬ ps = [] ∧ Stop (∀ (x : List UInt8) (a' s' : Int), x ∈ ps → a_c ≤ a' → a' ≤ a_c + 2 → K (.c (.str (x))) (H.set c_p (curK b_c i_c n_c a' s'))) ()) ps_v
  | _ => False
@[simp ↓] theorem q_of_eq (c_p : Nat) (ps_v : AV) (H : AHeap) (K : AV → AHeap → Prop) : q_of [.c (.ptr c_p 0 0), ps_v] H K = (onCur H c_p 900000000 fun b_c i_c n_c a_c s_c => eT.rd H (fun ps => ¬ ps = [] ∧ Stop (∀ (x : List UInt8) (a' s' : Int), x ∈ ps → a_c ≤ a' → a' ≤ a_c + 2 → K (.c (.str (x))) (H.set c_p (curK b_c i_c n_c a' s'))) ()) ps_v) := rfl

theorem spec_l1Cur__among_s : Sound Tryz.prog 55 q_among := by
  intro args H K h
  unfold q_among at h
  split at h
  rotate_left
  all_goals first | exact False.elim h | skip
  rename_i c_p ps_v
  have h1 := onCur_iff.1 h
  clear h
  obtain ⟨b_c, i_c, n_c, a_c, s_c, k_c, l_c, hk_c, hcb_c, h0_c, hlim_c, hat_c, rfl, h⟩ := h1
  have h1 := Enc.rd_at h
  clear h
  obtain ⟨b_ps, i_ps, k_ps, ps, rfl, hat_ps, h⟩ := h1
  have hE := soundE_cons spec_l1Cur__pick_s (soundE_nil (P := Tryz.prog))
  refine acalls_fn __spec_l1Cur__among_k hE ⟨by simp, fun hwf => ?_⟩
  have hb_ps : b_ps < H.n := (hwf b_ps k_ps hat_ps.blk).1
  have hne_ps : (b_ps = H.n) = False := eq_false (by omega)
  have hne1_ps : ∀ i, (b_ps = H.n + i) = False := fun i => eq_false (by omega)
  have hne2_ps := ne2_of (a := b_ps) (b := H.n) (by omega)
  have hmx_ps : ps.length ≤ 9223372036854775807 := by have h1 := (hwf b_ps k_ps hat_ps.blk).2.2; have h2 := hat_ps.len; omega
  have hb_c : b_c < H.n := (hwf b_c k_c hat_c.blk).1
  have hp_c : c_p < H.n := (hwf c_p _ hk_c).1
  have hbc_c : (b_c = c_p) = False := eq_false (Ne.symm hcb_c)
  have hbd_c : (c_p = b_c) = False := eq_false hcb_c
  have hne_c : (b_c = H.n) = False := eq_false (by omega)
  have hnp_c : (c_p = H.n) = False := eq_false (by omega)
  have hne1_c : ∀ i, (b_c = H.n + i) = False := fun i => eq_false (by omega)
  have hnp1_c : ∀ i, (c_p = H.n + i) = False := fun i => eq_false (by omega)
  have hne2_c := ne2_of (a := b_c) (b := H.n) (by omega)
  have hne2_cp := ne2_of (a := c_p) (b := H.n) (by omega)
  have hnq_c : (H.n = c_p) = False := eq_false (by omega)
  have hnq1_c : ∀ i, (H.n + i = c_p) = False := fun i => eq_false (by omega)
  have hnb_c : (H.n = b_c) = False := eq_false (by omega)
  have hnb1_c : ∀ i, (H.n + i = b_c) = False := fun i => eq_false (by omega)
  have hnr2_cp := nr2_of (a := c_p) (b := H.n) (by omega)
  have hnr2_c := nr2_of (a := b_c) (b := H.n) (by omega)
  have hmx_c : l_c.length ≤ 9223372036854775807 := by have h1 := (hwf b_c k_c hat_c.blk).2.2; have h2 := hat_c.len; omega
  have hpc_ps : (b_ps = c_p) = False := eq_false (fun e => by have h1 := hat_ps.blk; rw [e, hk_c] at h1; have h2 := hat_ps.esz; rw [← Option.some.inj h1] at h2; cases h2)
  have hpd_ps : (c_p = b_ps) = False := eq_false (fun e => of_eq_true (eq_self False) |> fun _ => (of_eq_false hpc_ps) e.symm)
  obtain ⟨hne0, h⟩ := h
  have hn1 : 0 < ps.length := List.length_pos_iff.2 hne0
  simp (config := {contextual := true, implicitDefEqProofs := false, maxSteps := 2000000}) [-Int.not_le, -Int.not_lt, argsF, __spec_l1Cur__among_c, hat_ps.blk, hat_ps.esz, hat_ps.len, hat_ps.els, hne_ps, hne1_ps, hne2_ps, onCur, dlI, dlT, hk_c, hcb_c, hbc_c, hbd_c, h0_c, hlim_c, hat_c.blk, hat_c.esz, hat_c.len, hat_c.els, hne_c, hnp_c, hne1_c, hnp1_c, hnq_c, hnq1_c, hnb_c, hnb1_c, hne2_c, hne2_cp, hnr2_c, hnr2_cp, hpc_ps, hpd_ps]
  refine Stop.mk fun x a1 s1 hl hu hx => ?_
  have hx2 : x < ps.length := by have := hx (by omega); omega
  have e1 := hat_ps.get hx2
  have hj1 := idx_lt hx2
  simp (config := {contextual := true, implicitDefEqProofs := false, maxSteps := 2000000}) [-Int.not_le, -Int.not_lt, argsF, __spec_l1Cur__among_c, hat_ps.blk, hat_ps.esz, hat_ps.len, hat_ps.els, hne_ps, hne1_ps, hne2_ps, onCur, dlI, dlT, hk_c, hcb_c, hbc_c, hbd_c, h0_c, hlim_c, hat_c.blk, hat_c.esz, hat_c.len, hat_c.els, hne_c, hnp_c, hne1_c, hnp1_c, hnq_c, hnq1_c, hnb_c, hnb1_c, hne2_c, hne2_cp, hnr2_c, hnr2_cp, hpc_ps, hpd_ps, hx2, e1, hj1]
  exact .old (H := H.set c_p _) (cur_wf hwf hk_c _ _) (.refl _) (by simp [frOk, AV.okR, AV.ok1, AC.okR, AV.ren, AV.ren1, AC.ren, AFrame.get, pl1_old, *]; first | done | rfl | omega) (Stop.out h _ a1 s1 (List.getElem_mem hx2) hl hu)

theorem spec_l1Cur__of_s : Sound Tryz.prog 71 q_of := by
  intro args H K h
  unfold q_of at h
  split at h
  rotate_left
  all_goals first | exact False.elim h | skip
  rename_i c_p ps_v
  have h1 := onCur_iff.1 h
  clear h
  obtain ⟨b_c, i_c, n_c, a_c, s_c, k_c, l_c, hk_c, hcb_c, h0_c, hlim_c, hat_c, rfl, h⟩ := h1
  have h1 := Enc.rd_at h
  clear h
  obtain ⟨b_ps, i_ps, k_ps, ps, rfl, hat_ps, h⟩ := h1
  have hE := soundE_cons spec_l1Cur__pick_s (soundE_nil (P := Tryz.prog))
  refine acalls_fn __spec_l1Cur__of_k hE ⟨by simp, fun hwf => ?_⟩
  have hb_ps : b_ps < H.n := (hwf b_ps k_ps hat_ps.blk).1
  have hne_ps : (b_ps = H.n) = False := eq_false (by omega)
  have hne1_ps : ∀ i, (b_ps = H.n + i) = False := fun i => eq_false (by omega)
  have hne2_ps := ne2_of (a := b_ps) (b := H.n) (by omega)
  have hmx_ps : ps.length ≤ 9223372036854775807 := by have h1 := (hwf b_ps k_ps hat_ps.blk).2.2; have h2 := hat_ps.len; omega
  have hb_c : b_c < H.n := (hwf b_c k_c hat_c.blk).1
  have hp_c : c_p < H.n := (hwf c_p _ hk_c).1
  have hbc_c : (b_c = c_p) = False := eq_false (Ne.symm hcb_c)
  have hbd_c : (c_p = b_c) = False := eq_false hcb_c
  have hne_c : (b_c = H.n) = False := eq_false (by omega)
  have hnp_c : (c_p = H.n) = False := eq_false (by omega)
  have hne1_c : ∀ i, (b_c = H.n + i) = False := fun i => eq_false (by omega)
  have hnp1_c : ∀ i, (c_p = H.n + i) = False := fun i => eq_false (by omega)
  have hne2_c := ne2_of (a := b_c) (b := H.n) (by omega)
  have hne2_cp := ne2_of (a := c_p) (b := H.n) (by omega)
  have hnq_c : (H.n = c_p) = False := eq_false (by omega)
  have hnq1_c : ∀ i, (H.n + i = c_p) = False := fun i => eq_false (by omega)
  have hnb_c : (H.n = b_c) = False := eq_false (by omega)
  have hnb1_c : ∀ i, (H.n + i = b_c) = False := fun i => eq_false (by omega)
  have hnr2_cp := nr2_of (a := c_p) (b := H.n) (by omega)
  have hnr2_c := nr2_of (a := b_c) (b := H.n) (by omega)
  have hmx_c : l_c.length ≤ 9223372036854775807 := by have h1 := (hwf b_c k_c hat_c.blk).2.2; have h2 := hat_c.len; omega
  have hpc_ps : (b_ps = c_p) = False := eq_false (fun e => by have h1 := hat_ps.blk; rw [e, hk_c] at h1; have h2 := hat_ps.esz; rw [← Option.some.inj h1] at h2; cases h2)
  have hpd_ps : (c_p = b_ps) = False := eq_false (fun e => of_eq_true (eq_self False) |> fun _ => (of_eq_false hpc_ps) e.symm)
  obtain ⟨hne0, h⟩ := h
  have hn1 : 0 < ps.length := List.length_pos_iff.2 hne0
  simp (config := {contextual := true, implicitDefEqProofs := false, maxSteps := 2000000}) [-Int.not_le, -Int.not_lt, argsF, __spec_l1Cur__of_c, hat_ps.blk, hat_ps.esz, hat_ps.len, hat_ps.els, hne_ps, hne1_ps, hne2_ps, onCur, dlI, dlT, hk_c, hcb_c, hbc_c, hbd_c, h0_c, hlim_c, hat_c.blk, hat_c.esz, hat_c.len, hat_c.els, hne_c, hnp_c, hne1_c, hnp1_c, hnq_c, hnq1_c, hnb_c, hnb1_c, hne2_c, hne2_cp, hnr2_c, hnr2_cp, hpc_ps, hpd_ps]
  refine Stop.mk fun x a1 s1 hl hu hx => ?_
  have hx2 : x < ps.length := by have := hx (by omega); omega
  have e1 := hat_ps.get hx2
  have hj1 := idx_lt hx2
  simp (config := {contextual := true, implicitDefEqProofs := false, maxSteps := 2000000}) [-Int.not_le, -Int.not_lt, argsF, __spec_l1Cur__of_c, hat_ps.blk, hat_ps.esz, hat_ps.len, hat_ps.els, hne_ps, hne1_ps, hne2_ps, onCur, dlI, dlT, hk_c, hcb_c, hbc_c, hbd_c, h0_c, hlim_c, hat_c.blk, hat_c.esz, hat_c.len, hat_c.els, hne_c, hnp_c, hne1_c, hnp1_c, hnq_c, hnq1_c, hnb_c, hnb1_c, hne2_c, hne2_cp, hnr2_c, hnr2_cp, hpc_ps, hpd_ps, hx2, e1, hj1]
  exact .old (H := H.set c_p _) (cur_wf hwf hk_c _ _) (.refl _) (by simp [frOk, AV.okR, AV.ok1, AC.okR, AV.ren, AV.ren1, AC.ren, AFrame.get, pl1_old, *]; first | done | rfl | omega) (Stop.out h _ a1 s1 (List.getElem_mem hx2) hl hu)

/-- what stands below stays, but for the cursor -/
theorem cur_sub2 {H : AHeap} {c b i n : Nat} {a s : Int} (h : H.b c = some (curK b i n a s)) {a' s' : Int} {F : AHeap} (hn : H.n ≤ F.n) (hI : F.I = H.I) (hc : F.b c = some (curK b i n a' s')) (ho : ∀ j k, j ≠ c → H.b j = some k → F.b j = some k) : Sub (H.set c (curK b i n a' s')) F := ⟨⟨by simpa using hn, fun j k hj => by
  rw [set_b] at hj
  split at hj
  · rename_i e; subst e; rw [hc]; exact hj
  · rename_i e; exact ho j k e hj⟩, by simpa using hI.symm⟩
/-- H' holds the same elements in each block of H but c -/
structure SubX (c : Nat) (H H' : AHeap) : Prop where
  ex : ∀ b k, b ≠ c → H.b b = some k → ∃ k', H'.b b = some k' ∧ k'.esz = k.esz ∧ k'.els = k.els
theorem SubX.refl (c : Nat) (H : AHeap) : SubX c H H := ⟨fun _ k _ h => ⟨k, h, rfl, rfl⟩⟩
theorem SubX.push {c : Nat} {H H' : AHeap} (hwf : H.WF) (hn : H.n ≤ H'.n) (h : SubX c H H') (k : ABlk) : SubX c H (H'.push k) := ⟨fun b k0 hb hk => by
  obtain ⟨k', h1, h2⟩ := h.ex b k0 hb hk
  exact ⟨k', by rw [push_b, if_neg (by have := (hwf b k0 hk).1; omega)]; exact h1, h2⟩⟩
theorem SubX.set {c : Nat} {H H' : AHeap} (hwf : H.WF) {i : Nat} (hn : i = c ∨ H.n ≤ i) (h : SubX c H H') (k : ABlk) : SubX c H (H'.set i k) := ⟨fun b k0 hb hk => by
  obtain ⟨k', h1, h2⟩ := h.ex b k0 hb hk
  exact ⟨k', by rw [set_b, if_neg (by have := (hwf b k0 hk).1; omega)]; exact h1, h2⟩⟩
theorem SubX.kill {c : Nat} {H H' : AHeap} (hwf : H.WF) {i : Nat} (hn : i = c ∨ H.n ≤ i) (h : SubX c H H') : SubX c H (H'.kill i) := ⟨fun b k0 hb hk => by
  obtain ⟨k', h1, h2⟩ := h.ex b k0 hb hk
  exact ⟨k', by rw [kill_b, if_neg (by have := (hwf b k0 hk).1; omega)]; exact h1, h2⟩⟩
theorem SubX.toRo {c : Nat} {H H' : AHeap} (h : SubX c H H') : SubX c H H'.toRo := ⟨fun b k0 hb hk => by
  obtain ⟨k', h1, h2⟩ := h.ex b k0 hb hk
  exact ⟨k'.toRo, by rw [toRo_b, h1]; rfl, h2⟩⟩
theorem rdI_x {c : Nat} {H H' : AHeap} {kc : ABlk} (hc : H.b c = some kc) (he : kc.esz ≠ 1) (hs : SubX c H H') {x : AC} {l : List Int} (h : rdI H x = some l) : rdI H' x = some l := by
  cases x with
  | sl b i n =>
    simp only [rdI, Option.bind_eq_some_iff] at h ⊢
    obtain ⟨k, h1, h2⟩ := h
    have hb : b ≠ c := fun e => by
      subst e
      rw [hc] at h1; cases h1
      rw [if_neg (fun h => he h.1)] at h2
      cases h2
    obtain ⟨k', h3, h4, h5⟩ := hs.ex b k hb h1
    exact ⟨k', h3, by rw [h4, h5]; exact h2⟩
  | _ => cases h
theorem eSi_x {c : Nat} {H H' : AHeap} {kc : ABlk} (hc : H.b c = some kc) (he : kc.esz ≠ 1) (hs : SubX c H H') {e : List AC} {p : Si} (h : eSi.dec H e = some p) : eSi.dec H' e = some p := by
  simp only [eSi] at h ⊢
  split at h
  · split at h
    · rename_i hl
      simp only [Option.map_eq_some_iff] at h ⊢
      rw [if_pos hl]
      obtain ⟨l, h1, h2⟩ := h
      exact Option.map_eq_some_iff.2 ⟨l, rdI_x hc he hs h1, h2⟩
    · cases h
  · cases h
theorem decL_x {c : Nat} {H H' : AHeap} {kc : ABlk} (hc : H.b c = some kc) (he : kc.esz ≠ 1) (hs : SubX c H H') : ∀ {L : List (List AC)} {l : List Si}, eSi.decL H L = some l → eSi.decL H' L = some l
  | [], _, h => h
  | e :: r, l, h => by
    simp only [EncH.decL] at h
    split at h
    · rename_i a t h1 h2
      cases h
      simp only [EncH.decL, eSi_x hc he hs h1, decL_x hc he hs h2]
    · cases h

end Go.Proofs.YtafenginfojcmaaGreatDoor
set_option maxRecDepth 8000
set_option linter.unusedSimpArgs false
set_option linter.unusedVariables false
namespace Go.Proofs.YtafenginfojcmaaGreatDoor
open Go Go.RowKit

set_option maxHeartbeats 2000000
theorem aloop_gen {P : Program} {N n0 : Nat} {body : ACode} {F : AFrame} {H : AHeap} {Q : Exit → AFrame → AHeap → Prop} (R : AHeap → Prop) (h : R H) (f : ∀ G, R G → ALoop P N n0 body F G Q) : ALoop P N n0 body F H Q := f H h
structure DT where
  H : AHeap
  a : Int
  s : Int
  out : List Int
  ob : Nat
  n : Nat
/-- a heap within a draw: the cursor, a row, all else below as it was -/
structure DT.Ok (x : DT) (H : AHeap) (c b i n : Nat) (a up : Int) : Prop where
  hn : H.n ≤ x.H.n
  hI : x.H.I = H.I
  cur : x.H.b c = some (curK b i n x.a x.s)
  old : ∀ j k, j ≠ c → H.b j = some k → x.H.b j = some k
  row : x.H.b x.ob = some (rowK eI 3 x.out)
  hob : H.n ≤ x.ob
  at0 : a ≤ x.a
  at1 : x.a ≤ up
  len : x.out.length + x.n ≤ 5
theorem putI_len2 (l : List Int) (n : Int) : (putI l n).length ≤ l.length + 1 := by
  unfold putI
  split
  · omega
  · have := congrArg List.length (List.takeWhile_append_dropWhile (p := ltI n) (l := l))
    simp only [List.length_append, List.length_cons] at this ⊢
    omega
theorem row_at {H : AHeap} {b : Nat} {l : List Int} (h : H.b b = some (rowK eI 3 l)) : eI.At H b 0 (rowK eI 3 l) l := ⟨h, rfl, by simp, by simp⟩
theorem cur_at {H H' : AHeap} {c b i n : Nat} {a s : Int} (hs : Sub (H.set c (curK b i n a s)) H') : H'.b c = some (curK b i n a s) := hs.1.2 _ _ (by rw [set_b, if_pos rfl])

def q_tr13 : Con := fun args H K => match args with
  | [.c (.ptr c_p 0 0)] => onCur H c_p 800000000 fun b_c i_c n_c a_c s_c => Stop (∀ (H' : AHeap) (b : Nat) (k : ABlk) (ts : List Int) (a' s' : Int), H'.WF → Sub (H.set c_p (curK b_c i_c n_c a' s')) H' → H.n ≤ b → eI.At H' b 0 k ts → ts.length ≤ 12 → a_c ≤ a' → a' ≤ a_c + 40 → K (.c (.sl (b) (0) (ts.length))) H') ()
  | _ => False
@[simp ↓] theorem q_tr13_eq (c_p : Nat) (H : AHeap) (K : AV → AHeap → Prop) : q_tr13 [.c (.ptr c_p 0 0)] H K = (onCur H c_p 800000000 fun b_c i_c n_c a_c s_c => Stop (∀ (H' : AHeap) (b : Nat) (k : ABlk) (ts : List Int) (a' s' : Int), H'.WF → Sub (H.set c_p (curK b_c i_c n_c a' s')) H' → H.n ≤ b → eI.At H' b 0 k ts → ts.length ≤ 12 → a_c ≤ a' → a' ≤ a_c + 40 → K (.c (.sl (b) (0) (ts.length))) H') ()) := rfl

theorem spec_l1Cur__traits13_s : Sound Tryz.prog 72 q_tr13 := by
  intro args H K h
  unfold q_tr13 at h
  split at h
  rotate_left
  all_goals first | exact False.elim h | skip
  rename_i c_p
  have h1 := onCur_iff.1 h
  clear h
  obtain ⟨b_c, i_c, n_c, a_c, s_c, k_c, l_c, hk_c, hcb_c, h0_c, hlim_c, hat_c, rfl, h⟩ := h1
  have hE := soundE_cons spec_l1Cur__pick_s (soundE_cons spec_l1Cur__among_s (soundE_cons spec_l1Put_s (soundE_cons spec_l1Cur__one_s (soundE_nil (P := Tryz.prog)))))
  refine acalls_fn __spec_l1Cur__traits13_k hE ⟨by simp, fun hwf => ?_⟩
  have hb_c : b_c < H.n := (hwf b_c k_c hat_c.blk).1
  have hp_c : c_p < H.n := (hwf c_p _ hk_c).1
  have hbc_c : (b_c = c_p) = False := eq_false (Ne.symm hcb_c)
  have hbd_c : (c_p = b_c) = False := eq_false hcb_c
  have hne_c : (b_c = H.n) = False := eq_false (by omega)
  have hnp_c : (c_p = H.n) = False := eq_false (by omega)
  have hne1_c : ∀ i, (b_c = H.n + i) = False := fun i => eq_false (by omega)
  have hnp1_c : ∀ i, (c_p = H.n + i) = False := fun i => eq_false (by omega)
  have hne2_c := ne2_of (a := b_c) (b := H.n) (by omega)
  have hne2_cp := ne2_of (a := c_p) (b := H.n) (by omega)
  have hnq_c : (H.n = c_p) = False := eq_false (by omega)
  have hnq1_c : ∀ i, (H.n + i = c_p) = False := fun i => eq_false (by omega)
  have hnb_c : (H.n = b_c) = False := eq_false (by omega)
  have hnb1_c : ∀ i, (H.n + i = b_c) = False := fun i => eq_false (by omega)
  have hnr2_cp := nr2_of (a := c_p) (b := H.n) (by omega)
  have hnr2_c := nr2_of (a := b_c) (b := H.n) (by omega)
  have hmx_c : l_c.length ≤ 9223372036854775807 := by have h1 := (hwf b_c k_c hat_c.blk).2.2; have h2 := hat_c.len; omega
  have hl8 : a_c ≤ 900000000 := by omega
  simp (config := {contextual := true, implicitDefEqProofs := false, maxSteps := 2000000}) [-Int.not_le, -Int.not_lt, argsF, __spec_l1Cur__traits13_c, onCur, dlI, dlT, hk_c, hcb_c, hbc_c, hbd_c, h0_c, hlim_c, hat_c.blk, hat_c.esz, hat_c.len, hat_c.els, hne_c, hnp_c, hne1_c, hnp1_c, hnq_c, hnq1_c, hnb_c, hnb1_c, hne2_c, hne2_cp, hnr2_c, hnr2_cp, hl8]
  refine Stop.mk fun n1 a1 s1 hl1 hu1 hn1 => ?_
  have hn5 := hn1 (by omega)
  simp (config := {contextual := true, implicitDefEqProofs := false, maxSteps := 2000000}) [-Int.not_le, -Int.not_lt, argsF, __spec_l1Cur__traits13_c, onCur, dlI, dlT, hk_c, hcb_c, hbc_c, hbd_c, h0_c, hlim_c, hat_c.blk, hat_c.esz, hat_c.len, hat_c.els, hne_c, hnp_c, hne1_c, hnp1_c, hnq_c, hnq1_c, hnb_c, hnb1_c, hne2_c, hne2_cp, hnr2_c, hnr2_cp]
  refine aloop_gen (fun G => DT.Ok ⟨G, a1, s1, [], H.n, n1⟩ H c_p b_c i_c l_c.length a_c (a_c + 2)) ⟨by simp only [push_n, set_n]; omega, by simp only [push_I, set_I], by simp [push_b, set_b, onCur, dlI, dlT, hk_c, hcb_c, hbc_c, hbd_c, h0_c, hlim_c, hat_c.blk, hat_c.esz, hat_c.len, hat_c.els, hne_c, hnp_c, hne1_c, hnp1_c, hnq_c, hnq1_c, hnb_c, hnb1_c, hne2_c, hne2_cp, hnr2_c, hnr2_cp], (fun j k hjc hj => by have hjn := (hwf j k hj).1; have qj0 : (j = H.n) = False := eq_false (by omega); have qj1 : (j = H.n + 1) = False := eq_false (by omega); have qj2 : (j = H.n + 1 + 1) = False := eq_false (by omega); have qj3 : (j = H.n + 1 + 1 + 1) = False := eq_false (by omega); have qj4 : (j = H.n + 1 + 1 + 1 + 1) = False := eq_false (by omega); have qj5 : (j = H.n + 1 + 1 + 1 + 1 + 1) = False := eq_false (by omega); simp [push_b, set_b, kill_b, hjc, qj0, qj1, qj2, qj3, qj4, qj5, hj]; done), by simp [push_b, set_b, onCur, dlI, dlT, hk_c, hcb_c, hbc_c, hbd_c, h0_c, hlim_c, hat_c.blk, hat_c.esz, hat_c.len, hat_c.els, hne_c, hnp_c, hne1_c, hnp1_c, hnq_c, hnq1_c, hnb_c, hnb1_c, hne2_c, hne2_cp, hnr2_c, hnr2_cp, rowK]; done, Nat.le_refl _, hl1, hu1, by simp only [List.length_nil]; omega⟩ fun G hG => ?_
  refine aloop_heap (X := DT) (fun x => [(0, .c (.ptr c_p 0 0)), (3, .c (.sl (x.ob) (0) (x.out.length))), (4, .c (.int .i64 ((x.n : Int))))]) (fun x => x.H) (fun x => x.Ok H c_p b_c i_c l_c.length a_c (a_c + 2 + 2 * (5 - (x.n : Int)))) (fun x => x.n) hE _ ⟨G, a1, s1, [], H.n, n1⟩ ⟨hG.hn, hG.hI, hG.cur, hG.old, hG.row, hG.hob, hG.at0, by have := hG.at1; simp only at *; omega, hG.len⟩ (fun hw0 => by have q1 := (hw0 _ _ hG.row).1; have q3 : H.n ≤ G.n := hG.hn; simp only at q1; exact .since hG.hn hw0 (.refl _) (by simp [frOk, AV.okR, AV.ok1, AC.okR, AV.ren, AV.ren1, AC.ren, AFrame.get, pl1_old, *]; first | done | rfl | omega)) (fun x hok hwx => ?_)
  have hxb : x.H.b b_c = some k_c := hok.old b_c k_c (Ne.symm hcb_c) hat_c.blk
  have hxc := hok.cur
  have hxr := hok.row
  have hob := hok.hob
  have hbq := (hwx _ _ hok.row).1
  have a0 := hok.at0
  have a1' := hok.at1
  have hln := hok.len
  have hnx := hok.hn
  have hbx : b_c < x.H.n := by omega
  have hcx : c_p < x.H.n := by omega
  have r0 : (x.ob = c_p) = False := eq_false (by omega)
  have r1 : (c_p = x.ob) = False := eq_false (by omega)
  have r2 : (x.ob = b_c) = False := eq_false (by omega)
  have r3 : (b_c = x.ob) = False := eq_false (by omega)
  have p0 := ne5_of (a := c_p) (b := x.H.n) (by omega)
  have p1 := ne5_of (a := b_c) (b := x.H.n) (by omega)
  have p2 := ne5_of (a := x.ob) (b := x.H.n) (by omega)
  have hlB : 0 ≤ x.a ∧ x.a ≤ 900000000 := by omega
  have hol : x.out.length ≤ 1000000 := by omega
  rcases Nat.eq_zero_or_pos x.n with hz | hz
  rotate_left
  · have hz' : 0 < x.n := hz
    have wn : IntKind.i64.wrap ((x.n : Int) - 1) = ((x.n - 1 : Nat) : Int) := by rw [wrap_id (by omega) (by omega)]; omega
    simp (config := {contextual := true, implicitDefEqProofs := false, maxSteps := 2000000}) [-Int.not_le, -Int.not_lt, argsF, __spec_l1Cur__traits13_l0, onCur, dlI, dlT, curOf_lit, hcb_c, hbc_c, hbd_c, hat_c.esz, hat_c.len, hat_c.els, hxc, hxb, hxr, r0, r1, r2, r3, p0, p1, p2, hz', hlB, wn]
    refine Stop.mk fun y a2 s2 hy hl2 hu2 => ?_
    have hpl := putI_len2 x.out y
    by_cases hh : hasP x.out y = true
    · simp (config := {contextual := true, implicitDefEqProofs := false, maxSteps := 2000000}) [-Int.not_le, -Int.not_lt, argsF, __spec_l1Cur__traits13_l0, onCur, dlI, dlT, curOf_lit, hcb_c, hbc_c, hbd_c, hat_c.esz, hat_c.len, hat_c.els, hxc, hxb, hxr, r0, r1, r2, r3, p0, p1, p2, hz', hlB, wn, hol, hh]
      exact ⟨fun hw => ⟨⟨_, a2, s2, x.out, x.ob, x.n - 1⟩, ⟨(by simp only [push_n, set_n, kill_n]; omega), (by simp only [push_I, set_I, kill_I]; exact hok.hI), by simp [push_b, set_b, kill_b, onCur, dlI, dlT, curOf_lit, hcb_c, hbc_c, hbd_c, hat_c.esz, hat_c.len, hat_c.els, hxc, hxb, hxr, r0, r1, r2, r3, p0, p1, p2]; done, (fun j k hjc hj => by have hjn := (hwf j k hj).1; have qj0 : (j = x.H.n) = False := eq_false (by omega); have qj1 : (j = x.H.n + 1) = False := eq_false (by omega); have qj2 : (j = x.H.n + 1 + 1) = False := eq_false (by omega); have qj3 : (j = x.H.n + 1 + 1 + 1) = False := eq_false (by omega); have qj4 : (j = x.H.n + 1 + 1 + 1 + 1) = False := eq_false (by omega); have qj5 : (j = x.H.n + 1 + 1 + 1 + 1 + 1) = False := eq_false (by omega); have qjo : (j = x.ob) = False := eq_false (by omega); simp [push_b, set_b, kill_b, hjc, qj0, qj1, qj2, qj3, qj4, qj5, qjo, hok.old j k hjc hj]; done), by simp [push_b, set_b, kill_b, onCur, dlI, dlT, curOf_lit, hcb_c, hbc_c, hbd_c, hat_c.esz, hat_c.len, hat_c.els, hxc, hxb, hxr, r0, r1, r2, r3, p0, p1, p2]; done, hob, by simp only; omega, by simp only; omega, by simp only; omega⟩, by simp only; omega, .since (by simp only [push_n, set_n, kill_n]; omega) hw (.refl _) (by simp [frOk, AV.okR, AV.ok1, AC.okR, AV.ren, AV.ren1, AC.ren, AFrame.get, pl1_old, *]; first | done | rfl | omega)⟩⟩
    · simp (config := {contextual := true, implicitDefEqProofs := false, maxSteps := 2000000}) [-Int.not_le, -Int.not_lt, argsF, __spec_l1Cur__traits13_l0, onCur, dlI, dlT, curOf_lit, hcb_c, hbc_c, hbd_c, hat_c.esz, hat_c.len, hat_c.els, hxc, hxb, hxr, r0, r1, r2, r3, p0, p1, p2, hz', hlB, wn, hol, hh]
      exact ⟨fun hw => ⟨⟨_, a2, s2, putI x.out y, x.H.n + 1, x.n - 1⟩, ⟨(by simp only [push_n, set_n, kill_n]; omega), (by simp only [push_I, set_I, kill_I]; exact hok.hI), by simp [push_b, set_b, kill_b, onCur, dlI, dlT, curOf_lit, hcb_c, hbc_c, hbd_c, hat_c.esz, hat_c.len, hat_c.els, hxc, hxb, hxr, r0, r1, r2, r3, p0, p1, p2]; done, (fun j k hjc hj => by have hjn := (hwf j k hj).1; have qj0 : (j = x.H.n) = False := eq_false (by omega); have qj1 : (j = x.H.n + 1) = False := eq_false (by omega); have qj2 : (j = x.H.n + 1 + 1) = False := eq_false (by omega); have qj3 : (j = x.H.n + 1 + 1 + 1) = False := eq_false (by omega); have qj4 : (j = x.H.n + 1 + 1 + 1 + 1) = False := eq_false (by omega); have qj5 : (j = x.H.n + 1 + 1 + 1 + 1 + 1) = False := eq_false (by omega); have qjo : (j = x.ob) = False := eq_false (by omega); simp [push_b, set_b, kill_b, hjc, qj0, qj1, qj2, qj3, qj4, qj5, qjo, hok.old j k hjc hj]; done), by simp [push_b, set_b, kill_b, onCur, dlI, dlT, curOf_lit, hcb_c, hbc_c, hbd_c, hat_c.esz, hat_c.len, hat_c.els, hxc, hxb, hxr, r0, r1, r2, r3, p0, p1, p2, rowK]; done, by simp only; omega, by simp only; omega, by simp only; omega, by simp only; omega⟩, by simp only; omega, .since (by simp only [push_n, set_n, kill_n]; omega) hw (.refl _) (by simp [frOk, AV.okR, AV.ok1, AC.okR, AV.ren, AV.ren1, AC.ren, AFrame.get, pl1_old, *]; first | done | rfl | omega)⟩⟩
  · have hz' : ¬ 0 < x.n := by omega
    simp (config := {contextual := true, implicitDefEqProofs := false, maxSteps := 2000000}) [-Int.not_le, -Int.not_lt, argsF, __spec_l1Cur__traits13_l0, onCur, dlI, dlT, curOf_lit, hcb_c, hbc_c, hbd_c, hat_c.esz, hat_c.len, hat_c.els, hxc, hxb, hxr, r0, r1, r2, r3, p0, p1, p2, hz', hlB]
    refine Stop.mk fun o a2 s2 hl2 hu2 => ?_
    have hlC : 0 ≤ a2 ∧ a2 ≤ 900000000 := by omega
    cases o with
    | false =>
      simp (config := {contextual := true, implicitDefEqProofs := false, maxSteps := 2000000}) [-Int.not_le, -Int.not_lt, argsF, __spec_l1Cur__traits13_c, onCur, dlI, dlT, curOf_lit, hcb_c, hbc_c, hbd_c, hat_c.esz, hat_c.len, hat_c.els, hxc, hxb, hxr, r0, r1, r2, r3, p0, p1, p2, hlC]
      refine Stop.mk fun o2 a3 s3 hl3 hu3 => ?_
      have hlD : 0 ≤ a3 ∧ a3 ≤ 900000000 := by omega
      cases o2 with
      | false =>
        simp (config := {contextual := true, implicitDefEqProofs := false, maxSteps := 2000000}) [-Int.not_le, -Int.not_lt, argsF, __spec_l1Cur__traits13_c, onCur, dlI, dlT, curOf_lit, hcb_c, hbc_c, hbd_c, hat_c.esz, hat_c.len, hat_c.els, hxc, hxb, hxr, r0, r1, r2, r3, p0, p1, p2, hlD]
        exact Out.whole (by simp only [push_n, set_n, kill_n]; omega) (by simp [frOk, AV.okR, AV.ok1, AC.okR, AV.ren, AV.ren1, AC.ren, AFrame.get, pl1_old, *]; first | done | rfl | omega) fun hw => Stop.out h _ (x.ob) (rowK eI 3 x.out) x.out a3 s3 hw (cur_sub2 hk_c (by simp only [push_n, set_n, kill_n]; omega) (by simp only [push_I, set_I, kill_I]; exact hok.hI) (by simp [push_b, set_b, kill_b, onCur, dlI, dlT, curOf_lit, hcb_c, hbc_c, hbd_c, hat_c.esz, hat_c.len, hat_c.els, hxc, hxb, hxr, r0, r1, r2, r3, p0, p1, p2]; done) (fun j k hjc hj => by have hjn := (hwf j k hj).1; have qj0 : (j = x.H.n) = False := eq_false (by omega); have qj1 : (j = x.H.n + 1) = False := eq_false (by omega); have qj2 : (j = x.H.n + 1 + 1) = False := eq_false (by omega); have qj3 : (j = x.H.n + 1 + 1 + 1) = False := eq_false (by omega); have qj4 : (j = x.H.n + 1 + 1 + 1 + 1) = False := eq_false (by omega); have qj5 : (j = x.H.n + 1 + 1 + 1 + 1 + 1) = False := eq_false (by omega); have qjo : (j = x.ob) = False := eq_false (by omega); simp [push_b, set_b, kill_b, hjc, qj0, qj1, qj2, qj3, qj4, qj5, qjo, hok.old j k hjc hj]; done)) (by omega) ⟨by simp [push_b, set_b, kill_b, onCur, dlI, dlT, curOf_lit, hcb_c, hbc_c, hbd_c, hat_c.esz, hat_c.len, hat_c.els, hxc, hxb, hxr, r0, r1, r2, r3, p0, p1, p2, rowK]; done, rfl, by simp, by simp⟩ (by first | omega | (simp; done) | (simp; omega)) (by omega) (by omega)
      | true =>
        simp (config := {contextual := true, implicitDefEqProofs := false, maxSteps := 2000000}) [-Int.not_le, -Int.not_lt, argsF, __spec_l1Cur__traits13_c, onCur, dlI, dlT, curOf_lit, hcb_c, hbc_c, hbd_c, hat_c.esz, hat_c.len, hat_c.els, hxc, hxb, hxr, r0, r1, r2, r3, p0, p1, p2, hlD]
        refine Stop.mk fun z a4 s4 hl4 hu4 hz4 => ?_
        have hz5 := hz4 (by omega)
        have e8 : IntKind.i64.wrap (8 + (0 : Int)) = 8 := wrap_id (by omega) (by omega)
        have e9 : IntKind.i64.wrap (8 + (1 : Int)) = 9 := wrap_id (by omega) (by omega)
        rcases (show z = 0 ∨ z = 1 by omega) with rfl | rfl
        · simp (config := {contextual := true, implicitDefEqProofs := false, maxSteps := 2000000}) [-Int.not_le, -Int.not_lt, argsF, __spec_l1Cur__traits13_c, onCur, dlI, dlT, curOf_lit, hcb_c, hbc_c, hbd_c, hat_c.esz, hat_c.len, hat_c.els, hxc, hxb, hxr, r0, r1, r2, r3, p0, p1, p2, hlD, wrap_id]
          exact Out.whole (by simp only [push_n, set_n, kill_n]; omega) (by simp [frOk, AV.okR, AV.ok1, AC.okR, AV.ren, AV.ren1, AC.ren, AFrame.get, pl1_old, *]; first | done | rfl | omega) fun hw => Stop.out h _ (x.H.n) (rowK eI 3 [1, 2, 3, 4, 5, 6, 7, 8, 9]) [1, 2, 3, 4, 5, 6, 7, 8] a4 s4 hw (cur_sub2 hk_c (by simp only [push_n, set_n, kill_n]; omega) (by simp only [push_I, set_I, kill_I]; exact hok.hI) (by simp [push_b, set_b, kill_b, onCur, dlI, dlT, curOf_lit, hcb_c, hbc_c, hbd_c, hat_c.esz, hat_c.len, hat_c.els, hxc, hxb, hxr, r0, r1, r2, r3, p0, p1, p2]; done) (fun j k hjc hj => by have hjn := (hwf j k hj).1; have qj0 : (j = x.H.n) = False := eq_false (by omega); have qj1 : (j = x.H.n + 1) = False := eq_false (by omega); have qj2 : (j = x.H.n + 1 + 1) = False := eq_false (by omega); have qj3 : (j = x.H.n + 1 + 1 + 1) = False := eq_false (by omega); have qj4 : (j = x.H.n + 1 + 1 + 1 + 1) = False := eq_false (by omega); have qj5 : (j = x.H.n + 1 + 1 + 1 + 1 + 1) = False := eq_false (by omega); have qjo : (j = x.ob) = False := eq_false (by omega); simp [push_b, set_b, kill_b, hjc, qj0, qj1, qj2, qj3, qj4, qj5, qjo, hok.old j k hjc hj]; done)) (by omega) ⟨by simp [push_b, set_b, kill_b, onCur, dlI, dlT, curOf_lit, hcb_c, hbc_c, hbd_c, hat_c.esz, hat_c.len, hat_c.els, hxc, hxb, hxr, r0, r1, r2, r3, p0, p1, p2, rowK]; done, rfl, by simp, by simp⟩ (by first | omega | (simp; done) | (simp; omega)) (by omega) (by omega)
        · simp (config := {contextual := true, implicitDefEqProofs := false, maxSteps := 2000000}) [-Int.not_le, -Int.not_lt, argsF, __spec_l1Cur__traits13_c, onCur, dlI, dlT, curOf_lit, hcb_c, hbc_c, hbd_c, hat_c.esz, hat_c.len, hat_c.els, hxc, hxb, hxr, r0, r1, r2, r3, p0, p1, p2, hlD, wrap_id]
          exact Out.whole (by simp only [push_n, set_n, kill_n]; omega) (by simp [frOk, AV.okR, AV.ok1, AC.okR, AV.ren, AV.ren1, AC.ren, AFrame.get, pl1_old, *]; first | done | rfl | omega) fun hw => Stop.out h _ (x.H.n) (rowK eI 3 [1, 2, 3, 4, 5, 6, 7, 8, 9]) [1, 2, 3, 4, 5, 6, 7, 8, 9] a4 s4 hw (cur_sub2 hk_c (by simp only [push_n, set_n, kill_n]; omega) (by simp only [push_I, set_I, kill_I]; exact hok.hI) (by simp [push_b, set_b, kill_b, onCur, dlI, dlT, curOf_lit, hcb_c, hbc_c, hbd_c, hat_c.esz, hat_c.len, hat_c.els, hxc, hxb, hxr, r0, r1, r2, r3, p0, p1, p2]; done) (fun j k hjc hj => by have hjn := (hwf j k hj).1; have qj0 : (j = x.H.n) = False := eq_false (by omega); have qj1 : (j = x.H.n + 1) = False := eq_false (by omega); have qj2 : (j = x.H.n + 1 + 1) = False := eq_false (by omega); have qj3 : (j = x.H.n + 1 + 1 + 1) = False := eq_false (by omega); have qj4 : (j = x.H.n + 1 + 1 + 1 + 1) = False := eq_false (by omega); have qj5 : (j = x.H.n + 1 + 1 + 1 + 1 + 1) = False := eq_false (by omega); have qjo : (j = x.ob) = False := eq_false (by omega); simp [push_b, set_b, kill_b, hjc, qj0, qj1, qj2, qj3, qj4, qj5, qjo, hok.old j k hjc hj]; done)) (by omega) ⟨by simp [push_b, set_b, kill_b, onCur, dlI, dlT, curOf_lit, hcb_c, hbc_c, hbd_c, hat_c.esz, hat_c.len, hat_c.els, hxc, hxb, hxr, r0, r1, r2, r3, p0, p1, p2, rowK]; done, rfl, by simp, by simp⟩ (by first | omega | (simp; done) | (simp; omega)) (by omega) (by omega)
    | true =>
      simp (config := {contextual := true, implicitDefEqProofs := false, maxSteps := 2000000}) [-Int.not_le, -Int.not_lt, argsF, __spec_l1Cur__traits13_c, onCur, dlI, dlT, curOf_lit, hcb_c, hbc_c, hbd_c, hat_c.esz, hat_c.len, hat_c.els, hxc, hxb, hxr, r0, r1, r2, r3, p0, p1, p2, hlC]
      refine Stop.mk fun y a3 s3 hy hl3 hu3 => ?_
      have hlD : 0 ≤ a3 ∧ a3 ≤ 900000000 := by omega
      have hb1 : (x.out.length + 1) * 8 ≤ 140737488355328 := by omega
      have hb2 : x.out.length ≤ 140737488355327 := by omega
      simp (config := {contextual := true, implicitDefEqProofs := false, maxSteps := 2000000}) [-Int.not_le, -Int.not_lt, argsF, __spec_l1Cur__traits13_c, onCur, dlI, dlT, curOf_lit, hcb_c, hbc_c, hbd_c, hat_c.esz, hat_c.len, hat_c.els, hxc, hxb, hxr, r0, r1, r2, r3, p0, p1, p2, hlD, hb1, hb2]
      refine Stop.mk fun o2 a4 s4 hl4 hu4 => ?_
      have hlE : 0 ≤ a4 ∧ a4 ≤ 900000000 := by omega
      cases o2 with
      | false =>
        simp (config := {contextual := true, implicitDefEqProofs := false, maxSteps := 2000000}) [-Int.not_le, -Int.not_lt, argsF, __spec_l1Cur__traits13_c, onCur, dlI, dlT, curOf_lit, hcb_c, hbc_c, hbd_c, hat_c.esz, hat_c.len, hat_c.els, hxc, hxb, hxr, r0, r1, r2, r3, p0, p1, p2, hlE]
        exact Out.whole (by simp only [push_n, set_n, kill_n]; omega) (by simp [frOk, AV.okR, AV.ok1, AC.okR, AV.ren, AV.ren1, AC.ren, AFrame.get, pl1_old, *]; first | done | rfl | omega) fun hw => by rw [show (x.out.length + 1) = (x.out ++ [y]).length from by simp]; exact Stop.out h _ (x.H.n + 1 + 1) (rowK eI 3 (x.out ++ [y])) (x.out ++ [y]) a4 s4 hw (cur_sub2 hk_c (by simp only [push_n, set_n, kill_n]; omega) (by simp only [push_I, set_I, kill_I]; exact hok.hI) (by simp [push_b, set_b, kill_b, onCur, dlI, dlT, curOf_lit, hcb_c, hbc_c, hbd_c, hat_c.esz, hat_c.len, hat_c.els, hxc, hxb, hxr, r0, r1, r2, r3, p0, p1, p2]; done) (fun j k hjc hj => by have hjn := (hwf j k hj).1; have qj0 : (j = x.H.n) = False := eq_false (by omega); have qj1 : (j = x.H.n + 1) = False := eq_false (by omega); have qj2 : (j = x.H.n + 1 + 1) = False := eq_false (by omega); have qj3 : (j = x.H.n + 1 + 1 + 1) = False := eq_false (by omega); have qj4 : (j = x.H.n + 1 + 1 + 1 + 1) = False := eq_false (by omega); have qj5 : (j = x.H.n + 1 + 1 + 1 + 1 + 1) = False := eq_false (by omega); have qjo : (j = x.ob) = False := eq_false (by omega); simp [push_b, set_b, kill_b, hjc, qj0, qj1, qj2, qj3, qj4, qj5, qjo, hok.old j k hjc hj]; done)) (by omega) ⟨by simp [push_b, set_b, kill_b, onCur, dlI, dlT, curOf_lit, hcb_c, hbc_c, hbd_c, hat_c.esz, hat_c.len, hat_c.els, hxc, hxb, hxr, r0, r1, r2, r3, p0, p1, p2, rowK]; done, rfl, by simp, by simp⟩ (by first | omega | (simp; done) | (simp; omega)) (by omega) (by omega)
      | true =>
        simp (config := {contextual := true, implicitDefEqProofs := false, maxSteps := 2000000}) [-Int.not_le, -Int.not_lt, argsF, __spec_l1Cur__traits13_c, onCur, dlI, dlT, curOf_lit, hcb_c, hbc_c, hbd_c, hat_c.esz, hat_c.len, hat_c.els, hxc, hxb, hxr, r0, r1, r2, r3, p0, p1, p2, hlE]
        refine Stop.mk fun z a5 s5 hl5 hu5 hz5 => ?_
        have hz6 := hz5 (by omega)
        have e8 : IntKind.i64.wrap (8 + (0 : Int)) = 8 := wrap_id (by omega) (by omega)
        have e9 : IntKind.i64.wrap (8 + (1 : Int)) = 9 := wrap_id (by omega) (by omega)
        rcases (show z = 0 ∨ z = 1 by omega) with rfl | rfl
        · simp (config := {contextual := true, implicitDefEqProofs := false, maxSteps := 2000000}) [-Int.not_le, -Int.not_lt, argsF, __spec_l1Cur__traits13_c, onCur, dlI, dlT, curOf_lit, hcb_c, hbc_c, hbd_c, hat_c.esz, hat_c.len, hat_c.els, hxc, hxb, hxr, r0, r1, r2, r3, p0, p1, p2, hlE, wrap_id]
          exact Out.whole (by simp only [push_n, set_n, kill_n]; omega) (by simp [frOk, AV.okR, AV.ok1, AC.okR, AV.ren, AV.ren1, AC.ren, AFrame.get, pl1_old, *]; first | done | rfl | omega) fun hw => Stop.out h _ (x.H.n + 1 + 1 + 1) (rowK eI 3 [1, 2, 3, 4, 5, 6, 7, 8, 9]) [1, 2, 3, 4, 5, 6, 7, 8] a5 s5 hw (cur_sub2 hk_c (by simp only [push_n, set_n, kill_n]; omega) (by simp only [push_I, set_I, kill_I]; exact hok.hI) (by simp [push_b, set_b, kill_b, onCur, dlI, dlT, curOf_lit, hcb_c, hbc_c, hbd_c, hat_c.esz, hat_c.len, hat_c.els, hxc, hxb, hxr, r0, r1, r2, r3, p0, p1, p2]; done) (fun j k hjc hj => by have hjn := (hwf j k hj).1; have qj0 : (j = x.H.n) = False := eq_false (by omega); have qj1 : (j = x.H.n + 1) = False := eq_false (by omega); have qj2 : (j = x.H.n + 1 + 1) = False := eq_false (by omega); have qj3 : (j = x.H.n + 1 + 1 + 1) = False := eq_false (by omega); have qj4 : (j = x.H.n + 1 + 1 + 1 + 1) = False := eq_false (by omega); have qj5 : (j = x.H.n + 1 + 1 + 1 + 1 + 1) = False := eq_false (by omega); have qjo : (j = x.ob) = False := eq_false (by omega); simp [push_b, set_b, kill_b, hjc, qj0, qj1, qj2, qj3, qj4, qj5, qjo, hok.old j k hjc hj]; done)) (by omega) ⟨by simp [push_b, set_b, kill_b, onCur, dlI, dlT, curOf_lit, hcb_c, hbc_c, hbd_c, hat_c.esz, hat_c.len, hat_c.els, hxc, hxb, hxr, r0, r1, r2, r3, p0, p1, p2, rowK]; done, rfl, by simp, by simp⟩ (by first | omega | (simp; done) | (simp; omega)) (by omega) (by omega)
        · simp (config := {contextual := true, implicitDefEqProofs := false, maxSteps := 2000000}) [-Int.not_le, -Int.not_lt, argsF, __spec_l1Cur__traits13_c, onCur, dlI, dlT, curOf_lit, hcb_c, hbc_c, hbd_c, hat_c.esz, hat_c.len, hat_c.els, hxc, hxb, hxr, r0, r1, r2, r3, p0, p1, p2, hlE, wrap_id]
          exact Out.whole (by simp only [push_n, set_n, kill_n]; omega) (by simp [frOk, AV.okR, AV.ok1, AC.okR, AV.ren, AV.ren1, AC.ren, AFrame.get, pl1_old, *]; first | done | rfl | omega) fun hw => Stop.out h _ (x.H.n + 1 + 1 + 1) (rowK eI 3 [1, 2, 3, 4, 5, 6, 7, 8, 9]) [1, 2, 3, 4, 5, 6, 7, 8, 9] a5 s5 hw (cur_sub2 hk_c (by simp only [push_n, set_n, kill_n]; omega) (by simp only [push_I, set_I, kill_I]; exact hok.hI) (by simp [push_b, set_b, kill_b, onCur, dlI, dlT, curOf_lit, hcb_c, hbc_c, hbd_c, hat_c.esz, hat_c.len, hat_c.els, hxc, hxb, hxr, r0, r1, r2, r3, p0, p1, p2]; done) (fun j k hjc hj => by have hjn := (hwf j k hj).1; have qj0 : (j = x.H.n) = False := eq_false (by omega); have qj1 : (j = x.H.n + 1) = False := eq_false (by omega); have qj2 : (j = x.H.n + 1 + 1) = False := eq_false (by omega); have qj3 : (j = x.H.n + 1 + 1 + 1) = False := eq_false (by omega); have qj4 : (j = x.H.n + 1 + 1 + 1 + 1) = False := eq_false (by omega); have qj5 : (j = x.H.n + 1 + 1 + 1 + 1 + 1) = False := eq_false (by omega); have qjo : (j = x.ob) = False := eq_false (by omega); simp [push_b, set_b, kill_b, hjc, qj0, qj1, qj2, qj3, qj4, qj5, qjo, hok.old j k hjc hj]; done)) (by omega) ⟨by simp [push_b, set_b, kill_b, onCur, dlI, dlT, curOf_lit, hcb_c, hbc_c, hbd_c, hat_c.esz, hat_c.len, hat_c.els, hxc, hxb, hxr, r0, r1, r2, r3, p0, p1, p2, rowK]; done, rfl, by simp, by simp⟩ (by first | omega | (simp; done) | (simp; omega)) (by omega) (by omega)

set_option maxHeartbeats 2000000

def q_si13 : Con := fun args H K => match args with
  | [.c (.ptr c_p 0 0), .c (.int .i64 id)] => onCur H c_p 700000000 fun b_c i_c n_c a_c s_c => Stop (∀ (H' : AHeap) (b : Nat) (k : ABlk) (p : Si) (a' s' : Int), H'.WF → Sub (H.set c_p (curK b_c i_c n_c a' s')) H' → H.n ≤ b → eI.At H' b 0 k p.traits → p.traits.length ≤ 12 → p.town.length ≤ 100 → a_c ≤ a' → a' ≤ a_c + 60 → K (.agg (siCells b p)) H') ()
  | _ => False
@[simp ↓] theorem q_si13_eq (c_p : Nat) (id : Int) (H : AHeap) (K : AV → AHeap → Prop) : q_si13 [.c (.ptr c_p 0 0), .c (.int .i64 id)] H K = (onCur H c_p 700000000 fun b_c i_c n_c a_c s_c => Stop (∀ (H' : AHeap) (b : Nat) (k : ABlk) (p : Si) (a' s' : Int), H'.WF → Sub (H.set c_p (curK b_c i_c n_c a' s')) H' → H.n ≤ b → eI.At H' b 0 k p.traits → p.traits.length ≤ 12 → p.town.length ≤ 100 → a_c ≤ a' → a' ≤ a_c + 60 → K (.agg (siCells b p)) H') ()) := rfl

theorem spec_l1Cur__sighting13_s : Sound Tryz.prog 51 q_si13 := by
  intro args H K h
  unfold q_si13 at h
  split at h
  rotate_left
  all_goals first | exact False.elim h | skip
  rename_i c_p id
  have h1 := onCur_iff.1 h
  clear h
  obtain ⟨b_c, i_c, n_c, a_c, s_c, k_c, l_c, hk_c, hcb_c, h0_c, hlim_c, hat_c, rfl, h⟩ := h1
  have hE := soundE_cons spec_l1Cur__among_s (soundE_cons spec_l1Cur__of_s (soundE_cons spec_l1Cur__traits13_s (soundE_cons spec_l1Cur__pick_s (soundE_nil (P := Tryz.prog)))))
  refine acalls_fn __spec_l1Cur__sighting13_k hE ⟨by simp, fun hwf => ?_⟩
  have hb_c : b_c < H.n := (hwf b_c k_c hat_c.blk).1
  have hp_c : c_p < H.n := (hwf c_p _ hk_c).1
  have hbc_c : (b_c = c_p) = False := eq_false (Ne.symm hcb_c)
  have hbd_c : (c_p = b_c) = False := eq_false hcb_c
  have hne_c : (b_c = H.n) = False := eq_false (by omega)
  have hnp_c : (c_p = H.n) = False := eq_false (by omega)
  have hne1_c : ∀ i, (b_c = H.n + i) = False := fun i => eq_false (by omega)
  have hnp1_c : ∀ i, (c_p = H.n + i) = False := fun i => eq_false (by omega)
  have hne2_c := ne2_of (a := b_c) (b := H.n) (by omega)
  have hne2_cp := ne2_of (a := c_p) (b := H.n) (by omega)
  have hnq_c : (H.n = c_p) = False := eq_false (by omega)
  have hnq1_c : ∀ i, (H.n + i = c_p) = False := fun i => eq_false (by omega)
  have hnb_c : (H.n = b_c) = False := eq_false (by omega)
  have hnb1_c : ∀ i, (H.n + i = b_c) = False := fun i => eq_false (by omega)
  have hnr2_cp := nr2_of (a := c_p) (b := H.n) (by omega)
  have hnr2_c := nr2_of (a := b_c) (b := H.n) (by omega)
  have hmx_c : l_c.length ≤ 9223372036854775807 := by have h1 := (hwf b_c k_c hat_c.blk).2.2; have h2 := hat_c.len; omega
  have hl8 : a_c ≤ 900000000 := by omega
  simp (config := {contextual := true, implicitDefEqProofs := false, maxSteps := 2000000}) [-Int.not_le, -Int.not_lt, argsF, __spec_l1Cur__sighting13_c, onCur, dlI, dlT, hk_c, hcb_c, hbc_c, hbd_c, h0_c, hlim_c, hat_c.blk, hat_c.esz, hat_c.len, hat_c.els, hne_c, hnp_c, hne1_c, hnp1_c, hnq_c, hnq1_c, hnb_c, hnb1_c, hne2_c, hne2_cp, hnr2_c, hnr2_cp, hl8]
  refine Stop.mk fun yr a1 s1 hyr hl1 hu1 => ?_
  have hlA : 0 ≤ a1 ∧ a1 ≤ 900000000 := by omega
  simp (config := {contextual := true, implicitDefEqProofs := false, maxSteps := 2000000}) [-Int.not_le, -Int.not_lt, argsF, __spec_l1Cur__sighting13_c, onCur, dlI, dlT, hk_c, hcb_c, hbc_c, hbd_c, h0_c, hlim_c, hat_c.blk, hat_c.esz, hat_c.len, hat_c.els, hne_c, hnp_c, hne1_c, hnp1_c, hnq_c, hnq1_c, hnb_c, hnb1_c, hne2_c, hne2_cp, hnr2_c, hnr2_cp, hlA]
  refine Stop.mk fun tw a2 s2 htw hl2 hu2 => ?_
  have hlB : 0 ≤ a2 ∧ a2 ≤ 800000000 := by omega
  simp (config := {contextual := true, implicitDefEqProofs := false, maxSteps := 2000000}) [-Int.not_le, -Int.not_lt, argsF, __spec_l1Cur__sighting13_c, onCur, dlI, dlT, hk_c, hcb_c, hbc_c, hbd_c, h0_c, hlim_c, hat_c.blk, hat_c.esz, hat_c.len, hat_c.els, hne_c, hnp_c, hne1_c, hnp1_c, hnq_c, hnq1_c, hnb_c, hnb1_c, hne2_c, hne2_cp, hnr2_c, hnr2_cp, hlB]
  refine Stop.mk fun H2 b2 k2 ts a3 s3 hw2 hs2 hb2 hat2 htl hl3 hu3 => ?_
  have hc2 := cur_at hs2
  have hxb : H2.b b_c = some k_c := hs2.1.2 _ _ (by simp [push_b, set_b, onCur, dlI, dlT, hk_c, hcb_c, hbc_c, hbd_c, h0_c, hlim_c, hat_c.blk, hat_c.esz, hat_c.len, hat_c.els, hne_c, hnp_c, hne1_c, hnp1_c, hnq_c, hnq1_c, hnb_c, hnb1_c, hne2_c, hne2_cp, hnr2_c, hnr2_cp]; done)
  have hz2 : H2.b H.n = some ⟨32, 4, false, false, [[.int .i64 0, .int .i64 0, .str [], .nils]]⟩ := hs2.1.2 _ _ (by simp [push_b, set_b, onCur, dlI, dlT, hk_c, hcb_c, hbc_c, hbd_c, h0_c, hlim_c, hat_c.blk, hat_c.esz, hat_c.len, hat_c.els, hne_c, hnp_c, hne1_c, hnp1_c, hnq_c, hnq1_c, hnb_c, hnb1_c, hne2_c, hne2_cp, hnr2_c, hnr2_cp]; done)
  have hn2 := hs2.1.1
  have hI2 := hs2.2.symm
  simp only [push_n, set_n, push_I, set_I] at hn2 hI2 hb2
  have hold : ∀ j k, j ≠ c_p → H.b j = some k → H2.b j = some k := fun j k hjc hj => hs2.1.2 _ _ (by
    have hjn := (hwf j k hj).1
    have qj0 : (j = H.n) = False := eq_false (by omega)
    have qj1 : (j = H.n + 1) = False := eq_false (by omega)
    have qj2 : (j = H.n + 1 + 1) = False := eq_false (by omega)
    simp [push_b, set_b, hjc, qj0, qj1, qj2, hj]; done)
  clear hs2
  have hbq := (hw2 _ _ hat2.blk).1
  have hlC : 0 ≤ a3 ∧ a3 ≤ 900000000 := by omega
  have r0 : (b2 = c_p) = False := eq_false (by omega)
  have r1 : (c_p = b2) = False := eq_false (by omega)
  have r2 : (b2 = b_c) = False := eq_false (by omega)
  have r3 : (b_c = b2) = False := eq_false (by omega)
  have r4 : (b2 = H.n) = False := eq_false (by omega)
  have r5 : (H.n = b2) = False := eq_false (by omega)
  have p0 := ne5_of (a := c_p) (b := H2.n) (by omega)
  have p1 := ne5_of (a := b_c) (b := H2.n) (by omega)
  have p2 := ne5_of (a := b2) (b := H2.n) (by omega)
  have p3 := ne5_of (a := H.n) (b := H2.n) (by omega)
  simp (config := {contextual := true, implicitDefEqProofs := false, maxSteps := 2000000}) [-Int.not_le, -Int.not_lt, argsF, __spec_l1Cur__sighting13_c, onCur, dlI, dlT, curOf_lit, hcb_c, hbc_c, hbd_c, hat_c.esz, hat_c.len, hat_c.els, hc2, hxb, hz2, hnp_c, hnp1_c, hnq_c, hnq1_c, hnb_c, hnb1_c, hne_c, hne1_c, r0, r1, r2, r3, r4, r5, p0, p1, p2, p3, hlC]
  refine Stop.mk fun x a4 s4 hl4 hu4 hx4 => ?_
  have hlD : 0 ≤ a4 ∧ a4 ≤ 900000000 := by omega
  rcases (show x = 0 ∨ x = 1 ∨ x = 2 ∨ 3 ≤ x by omega) with rfl | rfl | rfl | hx3
  · simp (config := {contextual := true, implicitDefEqProofs := false, maxSteps := 2000000}) [-Int.not_le, -Int.not_lt, argsF, __spec_l1Cur__sighting13_c, onCur, dlI, dlT, curOf_lit, hcb_c, hbc_c, hbd_c, hat_c.esz, hat_c.len, hat_c.els, hc2, hxb, hz2, hnp_c, hnp1_c, hnq_c, hnq1_c, hnb_c, hnb1_c, hne_c, hne1_c, r0, r1, r2, r3, r4, r5, p0, p1, p2, p3, hlD, wrap_id]
    refine Stop.mk fun y a5 s5 hy hl5 hu5 => ?_
    simp (config := {contextual := true, implicitDefEqProofs := false, maxSteps := 2000000}) [-Int.not_le, -Int.not_lt, argsF, __spec_l1Cur__sighting13_c, onCur, dlI, dlT, curOf_lit, hcb_c, hbc_c, hbd_c, hat_c.esz, hat_c.len, hat_c.els, hc2, hxb, hz2, hnp_c, hnp1_c, hnq_c, hnq1_c, hnb_c, hnb1_c, hne_c, hne1_c, r0, r1, r2, r3, r4, r5, p0, p1, p2, p3, wrap_id]
    exact Out.whole (by simp only [push_n, set_n, kill_n]; omega) (by simp [frOk, AV.okR, AV.ok1, AC.okR, AV.ren, AV.ren1, AC.ren, AFrame.get, pl1_old, *]; first | done | rfl | omega) fun hw => Stop.out h _ b2 k2 ⟨y, yr, tw, ts⟩ a5 s5 hw (cur_sub2 hk_c (by simp only [push_n, set_n, kill_n]; omega) (by simp only [push_I, set_I, kill_I]; exact hI2) (by simp [push_b, set_b, kill_b, onCur, dlI, dlT, curOf_lit, hcb_c, hbc_c, hbd_c, hat_c.esz, hat_c.len, hat_c.els, hc2, hxb, hz2, hnp_c, hnp1_c, hnq_c, hnq1_c, hnb_c, hnb1_c, hne_c, hne1_c, r0, r1, r2, r3, r4, r5, p0, p1, p2, p3]; done) (fun j k hjc hj => by have hjn := (hwf j k hj).1; have qj0 : (j = H2.n) = False := eq_false (by omega); have qj1 : (j = H2.n + 1) = False := eq_false (by omega); have qj2 : (j = H2.n + 1 + 1) = False := eq_false (by omega); have qj3 : (j = H2.n + 1 + 1 + 1) = False := eq_false (by omega); have qj4 : (j = H2.n + 1 + 1 + 1 + 1) = False := eq_false (by omega); have qj5 : (j = H2.n + 1 + 1 + 1 + 1 + 1) = False := eq_false (by omega); have qjo : (j = H.n) = False := eq_false (by omega); simp [push_b, set_b, kill_b, hjc, qj0, qj1, qj2, qj3, qj4, qj5, qjo, hold j k hjc hj]; done)) (by omega) ⟨by simp [push_b, set_b, kill_b, onCur, dlI, dlT, curOf_lit, hcb_c, hbc_c, hbd_c, hat_c.esz, hat_c.len, hat_c.els, hc2, hxb, hz2, hnp_c, hnp1_c, hnq_c, hnq1_c, hnb_c, hnb1_c, hne_c, hne1_c, r0, r1, r2, r3, r4, r5, p0, p1, p2, p3, hat2.blk]; done, hat2.esz, hat2.len, hat2.els⟩ htl (by show (tw).length ≤ 100; simp only [List.mem_cons, List.not_mem_nil, or_false] at htw; rcases htw with rfl | rfl | rfl <;> decide) (by omega) (by omega)
  · simp (config := {contextual := true, implicitDefEqProofs := false, maxSteps := 2000000}) [-Int.not_le, -Int.not_lt, argsF, __spec_l1Cur__sighting13_c, onCur, dlI, dlT, curOf_lit, hcb_c, hbc_c, hbd_c, hat_c.esz, hat_c.len, hat_c.els, hc2, hxb, hz2, hnp_c, hnp1_c, hnq_c, hnq1_c, hnb_c, hnb1_c, hne_c, hne1_c, r0, r1, r2, r3, r4, r5, p0, p1, p2, p3, hlD, wrap_id]
    refine Stop.mk fun y a5 s5 hy hl5 hu5 => ?_
    simp (config := {contextual := true, implicitDefEqProofs := false, maxSteps := 2000000}) [-Int.not_le, -Int.not_lt, argsF, __spec_l1Cur__sighting13_c, onCur, dlI, dlT, curOf_lit, hcb_c, hbc_c, hbd_c, hat_c.esz, hat_c.len, hat_c.els, hc2, hxb, hz2, hnp_c, hnp1_c, hnq_c, hnq1_c, hnb_c, hnb1_c, hne_c, hne1_c, r0, r1, r2, r3, r4, r5, p0, p1, p2, p3, wrap_id]
    exact Out.whole (by simp only [push_n, set_n, kill_n]; omega) (by simp [frOk, AV.okR, AV.ok1, AC.okR, AV.ren, AV.ren1, AC.ren, AFrame.get, pl1_old, *]; first | done | rfl | omega) fun hw => Stop.out h _ b2 k2 ⟨id, y, tw, ts⟩ a5 s5 hw (cur_sub2 hk_c (by simp only [push_n, set_n, kill_n]; omega) (by simp only [push_I, set_I, kill_I]; exact hI2) (by simp [push_b, set_b, kill_b, onCur, dlI, dlT, curOf_lit, hcb_c, hbc_c, hbd_c, hat_c.esz, hat_c.len, hat_c.els, hc2, hxb, hz2, hnp_c, hnp1_c, hnq_c, hnq1_c, hnb_c, hnb1_c, hne_c, hne1_c, r0, r1, r2, r3, r4, r5, p0, p1, p2, p3]; done) (fun j k hjc hj => by have hjn := (hwf j k hj).1; have qj0 : (j = H2.n) = False := eq_false (by omega); have qj1 : (j = H2.n + 1) = False := eq_false (by omega); have qj2 : (j = H2.n + 1 + 1) = False := eq_false (by omega); have qj3 : (j = H2.n + 1 + 1 + 1) = False := eq_false (by omega); have qj4 : (j = H2.n + 1 + 1 + 1 + 1) = False := eq_false (by omega); have qj5 : (j = H2.n + 1 + 1 + 1 + 1 + 1) = False := eq_false (by omega); have qjo : (j = H.n) = False := eq_false (by omega); simp [push_b, set_b, kill_b, hjc, qj0, qj1, qj2, qj3, qj4, qj5, qjo, hold j k hjc hj]; done)) (by omega) ⟨by simp [push_b, set_b, kill_b, onCur, dlI, dlT, curOf_lit, hcb_c, hbc_c, hbd_c, hat_c.esz, hat_c.len, hat_c.els, hc2, hxb, hz2, hnp_c, hnp1_c, hnq_c, hnq1_c, hnb_c, hnb1_c, hne_c, hne1_c, r0, r1, r2, r3, r4, r5, p0, p1, p2, p3, hat2.blk]; done, hat2.esz, hat2.len, hat2.els⟩ htl (by show (tw).length ≤ 100; simp only [List.mem_cons, List.not_mem_nil, or_false] at htw; rcases htw with rfl | rfl | rfl <;> decide) (by omega) (by omega)
  · simp (config := {contextual := true, implicitDefEqProofs := false, maxSteps := 2000000}) [-Int.not_le, -Int.not_lt, argsF, __spec_l1Cur__sighting13_c, onCur, dlI, dlT, curOf_lit, hcb_c, hbc_c, hbd_c, hat_c.esz, hat_c.len, hat_c.els, hc2, hxb, hz2, hnp_c, hnp1_c, hnq_c, hnq1_c, hnb_c, hnb1_c, hne_c, hne1_c, r0, r1, r2, r3, r4, r5, p0, p1, p2, p3, hlD, wrap_id]
    refine Stop.mk fun y a5 s5 hy hl5 hu5 => ?_
    simp (config := {contextual := true, implicitDefEqProofs := false, maxSteps := 2000000}) [-Int.not_le, -Int.not_lt, argsF, __spec_l1Cur__sighting13_c, onCur, dlI, dlT, curOf_lit, hcb_c, hbc_c, hbd_c, hat_c.esz, hat_c.len, hat_c.els, hc2, hxb, hz2, hnp_c, hnp1_c, hnq_c, hnq1_c, hnb_c, hnb1_c, hne_c, hne1_c, r0, r1, r2, r3, r4, r5, p0, p1, p2, p3, wrap_id]
    exact Out.whole (by simp only [push_n, set_n, kill_n]; omega) (by simp [frOk, AV.okR, AV.ok1, AC.okR, AV.ren, AV.ren1, AC.ren, AFrame.get, pl1_old, *]; first | done | rfl | omega) fun hw => Stop.out h _ b2 k2 ⟨id, yr, y, ts⟩ a5 s5 hw (cur_sub2 hk_c (by simp only [push_n, set_n, kill_n]; omega) (by simp only [push_I, set_I, kill_I]; exact hI2) (by simp [push_b, set_b, kill_b, onCur, dlI, dlT, curOf_lit, hcb_c, hbc_c, hbd_c, hat_c.esz, hat_c.len, hat_c.els, hc2, hxb, hz2, hnp_c, hnp1_c, hnq_c, hnq1_c, hnb_c, hnb1_c, hne_c, hne1_c, r0, r1, r2, r3, r4, r5, p0, p1, p2, p3]; done) (fun j k hjc hj => by have hjn := (hwf j k hj).1; have qj0 : (j = H2.n) = False := eq_false (by omega); have qj1 : (j = H2.n + 1) = False := eq_false (by omega); have qj2 : (j = H2.n + 1 + 1) = False := eq_false (by omega); have qj3 : (j = H2.n + 1 + 1 + 1) = False := eq_false (by omega); have qj4 : (j = H2.n + 1 + 1 + 1 + 1) = False := eq_false (by omega); have qj5 : (j = H2.n + 1 + 1 + 1 + 1 + 1) = False := eq_false (by omega); have qjo : (j = H.n) = False := eq_false (by omega); simp [push_b, set_b, kill_b, hjc, qj0, qj1, qj2, qj3, qj4, qj5, qjo, hold j k hjc hj]; done)) (by omega) ⟨by simp [push_b, set_b, kill_b, onCur, dlI, dlT, curOf_lit, hcb_c, hbc_c, hbd_c, hat_c.esz, hat_c.len, hat_c.els, hc2, hxb, hz2, hnp_c, hnp1_c, hnq_c, hnq1_c, hnb_c, hnb1_c, hne_c, hne1_c, r0, r1, r2, r3, r4, r5, p0, p1, p2, p3, hat2.blk]; done, hat2.esz, hat2.len, hat2.els⟩ htl (by show (y).length ≤ 100; simp only [List.mem_cons, List.not_mem_nil, or_false] at hy; rcases hy with rfl | rfl <;> decide) (by omega) (by omega)
  · have k0 : ((x : Int) = 0) = False := eq_false (by omega)
    have k1 : ((x : Int) = 1) = False := eq_false (by omega)
    have k2' : ((x : Int) = 2) = False := eq_false (by omega)
    have k3 : (x = 0) = False := eq_false (by omega)
    have k4 : (x = 1) = False := eq_false (by omega)
    have k5 : (x = 2) = False := eq_false (by omega)
    simp (config := {contextual := true, implicitDefEqProofs := false, maxSteps := 2000000}) [-Int.not_le, -Int.not_lt, argsF, __spec_l1Cur__sighting13_c, onCur, dlI, dlT, curOf_lit, hcb_c, hbc_c, hbd_c, hat_c.esz, hat_c.len, hat_c.els, hc2, hxb, hz2, hnp_c, hnp1_c, hnq_c, hnq1_c, hnb_c, hnb1_c, hne_c, hne1_c, r0, r1, r2, r3, r4, r5, p0, p1, p2, p3, hlD, wrap_id, k0, k1, k2', k3, k4, k5]
    exact Out.whole (by simp only [push_n, set_n, kill_n]; omega) (by simp [frOk, AV.okR, AV.ok1, AC.okR, AV.ren, AV.ren1, AC.ren, AFrame.get, pl1_old, *]; first | done | rfl | omega) fun hw => Stop.out h _ b2 k2 ⟨id, yr, tw, ts⟩ a4 s4 hw (cur_sub2 hk_c (by simp only [push_n, set_n, kill_n]; omega) (by simp only [push_I, set_I, kill_I]; exact hI2) (by simp [push_b, set_b, kill_b, onCur, dlI, dlT, curOf_lit, hcb_c, hbc_c, hbd_c, hat_c.esz, hat_c.len, hat_c.els, hc2, hxb, hz2, hnp_c, hnp1_c, hnq_c, hnq1_c, hnb_c, hnb1_c, hne_c, hne1_c, r0, r1, r2, r3, r4, r5, p0, p1, p2, p3]; done) (fun j k hjc hj => by have hjn := (hwf j k hj).1; have qj0 : (j = H2.n) = False := eq_false (by omega); have qj1 : (j = H2.n + 1) = False := eq_false (by omega); have qj2 : (j = H2.n + 1 + 1) = False := eq_false (by omega); have qj3 : (j = H2.n + 1 + 1 + 1) = False := eq_false (by omega); have qj4 : (j = H2.n + 1 + 1 + 1 + 1) = False := eq_false (by omega); have qj5 : (j = H2.n + 1 + 1 + 1 + 1 + 1) = False := eq_false (by omega); have qjo : (j = H.n) = False := eq_false (by omega); simp [push_b, set_b, kill_b, hjc, qj0, qj1, qj2, qj3, qj4, qj5, qjo, hold j k hjc hj]; done)) (by omega) ⟨by simp [push_b, set_b, kill_b, onCur, dlI, dlT, curOf_lit, hcb_c, hbc_c, hbd_c, hat_c.esz, hat_c.len, hat_c.els, hc2, hxb, hz2, hnp_c, hnp1_c, hnq_c, hnq1_c, hnb_c, hnb1_c, hne_c, hne1_c, r0, r1, r2, r3, r4, r5, p0, p1, p2, p3, hat2.blk]; done, hat2.esz, hat2.len, hat2.els⟩ htl (by show (tw).length ≤ 100; simp only [List.mem_cons, List.not_mem_nil, or_false] at htw; rcases htw with rfl | rfl | rfl <;> decide) (by omega) (by omega)

set_option maxHeartbeats 2000000
theorem siZ_add {cs : List Nat} {out : List Si} {Z : List (List AC)} {b : Nat} {p : Si} (hZ : List.zipWith siCells cs out = Z) (hl : cs.length = out.length) : List.take out.length Z ++ [siCells b p] = List.zipWith siCells (cs ++ [b]) (out ++ [p]) := by
  subst hZ
  rw [List.zipWith_append hl, List.take_of_length_le (by simp [hl])]
  rfl
theorem push_top (G : AHeap) (k : ABlk) {m : Nat} (hm : m = G.n) : (G.push k).b m = some k := by rw [push_b, if_pos hm]
theorem siZ_len {cs : List Nat} {out : List Si} {Z : List (List AC)} (hZ : List.zipWith siCells cs out = Z) (hl : cs.length = out.length) : Z.length = out.length := by subst hZ; simp [hl]
theorem eSi_cells2 {H : AHeap} {c : Nat} {k : ABlk} {p : Si} (hat : eI.At H c 0 k p.traits) (ht : p.town.length ≤ 9223372036854775807) : eSi.dec H (siCells c p) = some p := by
  simp only [eSi, siCells]
  rw [if_pos ht]
  have h1 := hat.els
  have h2 : eI.decL ((k.els.drop 0).take p.traits.length) = some p.traits := by rw [h1]; exact Enc.decL_map eI _
  simp only [rdI, hat.blk, Option.bind_some]
  rw [if_pos ⟨hat.esz, hat.len⟩, h2]
  rfl
structure DS where
  H : AHeap
  a : Int
  s : Int
  out : List Si
  cs : List Nat
  ob : Nat
  id : Int
  n : Nat
def shS (p : Si) : Prop := p.traits.length ≤ 12 ∧ p.town.length ≤ 100
structure DS.Ok (x : DS) (H : AHeap) (c b i n : Nat) (a up : Int) (ln : Nat) : Prop where
  hn : H.n ≤ x.H.n
  hI : x.H.I = H.I
  cur : x.H.b c = some (curK b i n x.a x.s)
  old : ∀ j k, j ≠ c → H.b j = some k → x.H.b j = some k
  row : x.H.b x.ob = some ⟨32, 4, false, false, List.zipWith siCells x.cs x.out⟩
  hob : H.n ≤ x.ob
  at0 : a ≤ x.a
  at1 : x.a ≤ up
  len : x.out.length ≤ ln
  cl : x.cs.length = x.out.length
  tr : ∀ (j d : Nat) (p : Si), x.cs[j]? = some d → x.out[j]? = some p → (∃ k, eI.At x.H d 0 k p.traits) ∧ H.n ≤ d ∧ d ≠ x.ob
  sh : ∀ p ∈ x.out, shS p
theorem DS.Ok.at {x : DS} {H : AHeap} {c b i n ln : Nat} {a up : Int} (h : x.Ok H c b i n a up ln) : ∃ k, eSi.At x.H x.ob 0 k x.out := by
  refine ⟨_, ⟨h.row, rfl, by simp [h.cl], ?_⟩⟩
  have hd := eSi.decL_zip (H := x.H) siCells x.cs x.out h.cl fun j d p hd hp => by
    obtain ⟨⟨k, hat⟩, _⟩ := h.tr j d p hd hp
    have := (h.sh p (List.mem_of_getElem? hp)).2
    exact eSi_cells2 hat (by omega)
  have hl : (List.zipWith siCells x.cs x.out).length = x.out.length := by simp [h.cl]
  simpa [hl, List.take_of_length_le] using hd
theorem at_keep {H H' : AHeap} {c : Nat} {k : ABlk} {l : List Int} (h : eI.At H c 0 k l) (hb : H'.b c = some k) : eI.At H' c 0 k l := ⟨hb, h.esz, h.len, h.els⟩
theorem tr_add {G G' : AHeap} {n0 ob ob' d' : Nat} {cs : List Nat} {out : List Si} {p' : Si} (hl : cs.length = out.length) (h : ∀ (j d : Nat) (p : Si), cs[j]? = some d → out[j]? = some p → (∃ k, eI.At G d 0 k p.traits) ∧ n0 ≤ d ∧ d ≠ ob)
    (hk : ∀ d k, n0 ≤ d → d ≠ ob → G.b d = some k → G'.b d = some k ∧ d ≠ ob') (h1 : (∃ k, eI.At G' d' 0 k p'.traits) ∧ n0 ≤ d' ∧ d' ≠ ob') :
    ∀ (j d : Nat) (p : Si), (cs ++ [d'])[j]? = some d → (out ++ [p'])[j]? = some p → (∃ k, eI.At G' d 0 k p.traits) ∧ n0 ≤ d ∧ d ≠ ob' := fun j d p hd hp => by
  rcases Nat.lt_or_ge j cs.length with hj | hj
  · rw [List.getElem?_append_left hj] at hd
    rw [List.getElem?_append_left (by omega)] at hp
    obtain ⟨⟨k, hat⟩, g1, g2⟩ := h j d p hd hp
    obtain ⟨g3, g4⟩ := hk d k g1 g2 hat.blk
    exact ⟨⟨k, at_keep hat g3⟩, g1, g4⟩
  · have hj2 : j = cs.length := by have := (List.getElem?_eq_some_iff.1 hd).1; simp at this; omega
    subst hj2
    rw [List.getElem?_append_right (Nat.le_refl _)] at hd
    rw [List.getElem?_append_right (by omega)] at hp
    simp [hl] at hd hp
    subst hd hp
    exact h1

def q_sis13 : Con := fun args H K => match args with
  | [.c (.ptr c_p 0 0)] => onCur H c_p 600000000 fun b_c i_c n_c a_c s_c => Stop (∀ (H' : AHeap) (b : Nat) (k : ABlk) (ps : List Si) (a' s' : Int), H'.WF → Sub (H.set c_p (curK b_c i_c n_c a' s')) H' → H.n ≤ b → eSi.At H' b 0 k ps → ps.length ≤ 12 → (∀ p ∈ ps, shS p) → a_c ≤ a' → a' ≤ a_c + 5000 → K (.c (.sl (b) (0) (ps.length))) H') ()
  | _ => False
@[simp ↓] theorem q_sis13_eq (c_p : Nat) (H : AHeap) (K : AV → AHeap → Prop) : q_sis13 [.c (.ptr c_p 0 0)] H K = (onCur H c_p 600000000 fun b_c i_c n_c a_c s_c => Stop (∀ (H' : AHeap) (b : Nat) (k : ABlk) (ps : List Si) (a' s' : Int), H'.WF → Sub (H.set c_p (curK b_c i_c n_c a' s')) H' → H.n ≤ b → eSi.At H' b 0 k ps → ps.length ≤ 12 → (∀ p ∈ ps, shS p) → a_c ≤ a' → a' ≤ a_c + 5000 → K (.c (.sl (b) (0) (ps.length))) H') ()) := rfl

theorem spec_l1Cur__sightings13_s : Sound Tryz.prog 41 q_sis13 := by
  intro args H K h
  unfold q_sis13 at h
  split at h
  rotate_left
  all_goals first | exact False.elim h | skip
  rename_i c_p
  have h1 := onCur_iff.1 h
  clear h
  obtain ⟨b_c, i_c, n_c, a_c, s_c, k_c, l_c, hk_c, hcb_c, h0_c, hlim_c, hat_c, rfl, h⟩ := h1
  have hE := soundE_cons spec_l1Cur__pick_s (soundE_cons spec_l1Cur__sighting13_s (soundE_cons spec_l1Cur__one_s (soundE_nil (P := Tryz.prog))))
  refine acalls_fn __spec_l1Cur__sightings13_k hE ⟨by simp, fun hwf => ?_⟩
  have hb_c : b_c < H.n := (hwf b_c k_c hat_c.blk).1
  have hp_c : c_p < H.n := (hwf c_p _ hk_c).1
  have hbc_c : (b_c = c_p) = False := eq_false (Ne.symm hcb_c)
  have hbd_c : (c_p = b_c) = False := eq_false hcb_c
  have hne_c : (b_c = H.n) = False := eq_false (by omega)
  have hnp_c : (c_p = H.n) = False := eq_false (by omega)
  have hne1_c : ∀ i, (b_c = H.n + i) = False := fun i => eq_false (by omega)
  have hnp1_c : ∀ i, (c_p = H.n + i) = False := fun i => eq_false (by omega)
  have hne2_c := ne2_of (a := b_c) (b := H.n) (by omega)
  have hne2_cp := ne2_of (a := c_p) (b := H.n) (by omega)
  have hnq_c : (H.n = c_p) = False := eq_false (by omega)
  have hnq1_c : ∀ i, (H.n + i = c_p) = False := fun i => eq_false (by omega)
  have hnb_c : (H.n = b_c) = False := eq_false (by omega)
  have hnb1_c : ∀ i, (H.n + i = b_c) = False := fun i => eq_false (by omega)
  have hnr2_cp := nr2_of (a := c_p) (b := H.n) (by omega)
  have hnr2_c := nr2_of (a := b_c) (b := H.n) (by omega)
  have hmx_c : l_c.length ≤ 9223372036854775807 := by have h1 := (hwf b_c k_c hat_c.blk).2.2; have h2 := hat_c.len; omega
  have hl8 : a_c ≤ 900000000 := by omega
  simp (config := {contextual := true, implicitDefEqProofs := false, maxSteps := 2000000}) [-Int.not_le, -Int.not_lt, argsF, __spec_l1Cur__sightings13_c, onCur, dlI, dlT, hk_c, hcb_c, hbc_c, hbd_c, h0_c, hlim_c, hat_c.blk, hat_c.esz, hat_c.len, hat_c.els, hne_c, hnp_c, hne1_c, hnp1_c, hnq_c, hnq1_c, hnb_c, hnb1_c, hne2_c, hne2_cp, hnr2_c, hnr2_cp, hl8]
  refine Stop.mk fun n1 a1 s1 hl1 hu1 hn1 => ?_
  have hn8 := hn1 (by omega)
  simp (config := {contextual := true, implicitDefEqProofs := false, maxSteps := 2000000}) [-Int.not_le, -Int.not_lt, argsF, __spec_l1Cur__sightings13_c, onCur, dlI, dlT, hk_c, hcb_c, hbc_c, hbd_c, h0_c, hlim_c, hat_c.blk, hat_c.esz, hat_c.len, hat_c.els, hne_c, hnp_c, hne1_c, hnp1_c, hnq_c, hnq1_c, hnb_c, hnb1_c, hne2_c, hne2_cp, hnr2_c, hnr2_cp]
  refine aloop_gen (fun G => DS.Ok ⟨G, a1, s1, [], [], H.n, 0, n1⟩ H c_p b_c i_c l_c.length a_c (a_c + 2) 8) ⟨by simp only [push_n, set_n]; omega, by simp only [push_I, set_I], by simp [push_b, set_b, onCur, dlI, dlT, hk_c, hcb_c, hbc_c, hbd_c, h0_c, hlim_c, hat_c.blk, hat_c.esz, hat_c.len, hat_c.els, hne_c, hnp_c, hne1_c, hnp1_c, hnq_c, hnq1_c, hnb_c, hnb1_c, hne2_c, hne2_cp, hnr2_c, hnr2_cp], (fun j k hjc hj => by have hjn := (hwf j k hj).1; have qj0 : (j = H.n) = False := eq_false (by omega); have qj1 : (j = H.n + 1) = False := eq_false (by omega); have qj2 : (j = H.n + 1 + 1) = False := eq_false (by omega); have qj3 : (j = H.n + 1 + 1 + 1) = False := eq_false (by omega); have qj4 : (j = H.n + 1 + 1 + 1 + 1) = False := eq_false (by omega); have qj5 : (j = H.n + 1 + 1 + 1 + 1 + 1) = False := eq_false (by omega); simp [push_b, set_b, kill_b, hjc, qj0, qj1, qj2, qj3, qj4, qj5, hj]; done), by simp [push_b, set_b, onCur, dlI, dlT, hk_c, hcb_c, hbc_c, hbd_c, h0_c, hlim_c, hat_c.blk, hat_c.esz, hat_c.len, hat_c.els, hne_c, hnp_c, hne1_c, hnp1_c, hnq_c, hnq1_c, hnb_c, hnb1_c, hne2_c, hne2_cp, hnr2_c, hnr2_cp]; done, Nat.le_refl _, hl1, hu1, Nat.zero_le _, rfl, fun j d p hd => by simp at hd, fun p hp => by cases hp⟩ fun G hG => ?_
  refine aloop_heap (X := DS) (fun x => [(0, .c (.ptr c_p 0 0)), (3, .c (.sl (x.ob) (0) (x.out.length))), (4, .c (.int .i64 (x.id))), (5, .c (.int .i64 ((x.n : Int))))]) (fun x => x.H) (fun x => x.Ok H c_p b_c i_c l_c.length a_c (a_c + 2 + 64 * (x.out.length : Int)) 8 ∧ x.out.length + x.n ≤ 8) (fun x => x.n) hE _ ⟨G, a1, s1, [], [], H.n, 0, n1⟩ ⟨⟨hG.hn, hG.hI, hG.cur, hG.old, hG.row, hG.hob, hG.at0, by have := hG.at1; simp only [List.length_nil] at *; omega, hG.len, hG.cl, hG.tr, hG.sh⟩, by simp only [List.length_nil]; omega⟩ (fun hw0 => by have q1 := (hw0 _ _ hG.row).1; have q3 : H.n ≤ G.n := hG.hn; simp only at q1; exact .since hG.hn hw0 (.refl _) (by simp [frOk, AV.okR, AV.ok1, AC.okR, AV.ren, AV.ren1, AC.ren, AFrame.get, pl1_old, *]; first | done | rfl | omega)) (fun x hxx hwx => ?_)
  obtain ⟨hok, hnn⟩ := hxx
  have hxb : x.H.b b_c = some k_c := hok.old b_c k_c (Ne.symm hcb_c) hat_c.blk
  have hxc := hok.cur
  have hxr := hok.row
  have hob := hok.hob
  have hbq := (hwx _ _ hok.row).1
  have a0 := hok.at0
  have a1' := hok.at1
  have hln := hok.len
  have hnx := hok.hn
  have hbx : b_c < x.H.n := by omega
  have hcx : c_p < x.H.n := by omega
  have r0 : (x.ob = c_p) = False := eq_false (by omega)
  have r1 : (c_p = x.ob) = False := eq_false (by omega)
  have r2 : (x.ob = b_c) = False := eq_false (by omega)
  have r3 : (b_c = x.ob) = False := eq_false (by omega)
  have p0 := ne5_of (a := c_p) (b := x.H.n) (by omega)
  have p1 := ne5_of (a := b_c) (b := x.H.n) (by omega)
  have p2 := ne5_of (a := x.ob) (b := x.H.n) (by omega)
  have hcl := hok.cl
  obtain ⟨Z, hZ⟩ : ∃ Z, List.zipWith siCells x.cs x.out = Z := ⟨_, rfl⟩
  have hZl := siZ_len hZ hcl
  rw [hZ] at hxr
  have hlz : x.out.length ≤ Z.length := by omega
  rcases Nat.eq_zero_or_pos x.n with hz | hz
  rotate_left
  · have hz' : 0 < x.n := hz
    have hlB : 0 ≤ x.a ∧ x.a ≤ 900000000 := by omega
    have wn : IntKind.i64.wrap ((x.n : Int) - 1) = ((x.n - 1 : Nat) : Int) := by rw [wrap_id (by omega) (by omega)]; omega
    simp (config := {contextual := true, implicitDefEqProofs := false, maxSteps := 2000000}) [-Int.not_le, -Int.not_lt, argsF, __spec_l1Cur__sightings13_l0, onCur, dlI, dlT, curOf_lit, hcb_c, hbc_c, hbd_c, hat_c.esz, hat_c.len, hat_c.els, hxc, hxb, hxr, r0, r1, r2, r3, p0, p1, p2, hlz, hZl, hz', hlB, wn]
    refine Stop.mk fun y a2 s2 hl2 hu2 hy => ?_
    have hlC : 0 ≤ a2 ∧ a2 ≤ 900000000 := by omega
    simp (config := {contextual := true, implicitDefEqProofs := false, maxSteps := 2000000}) [-Int.not_le, -Int.not_lt, argsF, __spec_l1Cur__sightings13_l0, onCur, dlI, dlT, curOf_lit, hcb_c, hbc_c, hbd_c, hat_c.esz, hat_c.len, hat_c.els, hxc, hxb, hxr, r0, r1, r2, r3, p0, p1, p2, hlz, hZl, hz', hlC, wn]
    refine Stop.mk fun z a3 s3 hl3 hu3 hz3 => ?_
    have hlD : 0 ≤ a3 ∧ a3 ≤ 700000000 := by omega
    simp (config := {contextual := true, implicitDefEqProofs := false, maxSteps := 2000000}) [-Int.not_le, -Int.not_lt, argsF, __spec_l1Cur__sightings13_l0, onCur, dlI, dlT, curOf_lit, hcb_c, hbc_c, hbd_c, hat_c.esz, hat_c.len, hat_c.els, hxc, hxb, hxr, r0, r1, r2, r3, p0, p1, p2, hlz, hZl, hz', hlD, wn]
    refine Stop.mk fun H2 b2 k2 p a4 s4 hw2 hs2 hb2 hat2 htl htw hl4 hu4 => ?_
    have hc2 := cur_at hs2
    have hxb2 : H2.b b_c = some k_c := hs2.1.2 _ _ (by simp [push_b, set_b, kill_b, onCur, dlI, dlT, curOf_lit, hcb_c, hbc_c, hbd_c, hat_c.esz, hat_c.len, hat_c.els, hxc, hxb, hxr, r0, r1, r2, r3, p0, p1, p2]; done)
    have hxr2 : H2.b x.ob = some ⟨32, 4, false, false, Z⟩ := hs2.1.2 _ _ (by simp [push_b, set_b, kill_b, onCur, dlI, dlT, curOf_lit, hcb_c, hbc_c, hbd_c, hat_c.esz, hat_c.len, hat_c.els, hxc, hxb, hxr, r0, r1, r2, r3, p0, p1, p2]; done)
    have hn2 := hs2.1.1
    have hI2 := hs2.2.symm
    simp only [push_n, set_n, push_I, set_I] at hn2 hI2 hb2
    have hold2 : ∀ j k, j ≠ c_p → x.H.b j = some k → H2.b j = some k := fun j k hjc hj => hs2.1.2 _ _ (by
      have hjn := (hwx j k hj).1
      have qj0 : (j = x.H.n) = False := eq_false (by omega)
      simp [push_b, set_b, hjc, qj0, hj]; done)
    clear hs2
    have hbq2 := (hw2 _ _ hat2.blk).1
    have r4 : (b2 = c_p) = False := eq_false (by omega)
    have r5 : (c_p = b2) = False := eq_false (by omega)
    have r6 : (b2 = b_c) = False := eq_false (by omega)
    have r7 : (b_c = b2) = False := eq_false (by omega)
    have r8 : (b2 = x.ob) = False := eq_false (by omega)
    have r9 : (x.ob = b2) = False := eq_false (by omega)
    have u0 := ne5_of (a := c_p) (b := H2.n) (by omega)
    have u1 := ne5_of (a := b_c) (b := H2.n) (by omega)
    have u2 := ne5_of (a := b2) (b := H2.n) (by omega)
    have u3 := ne5_of (a := x.ob) (b := H2.n) (by omega)
    have hb1 : (x.out.length + 1) * 56 ≤ 140737488355328 := by omega
    have hb3 : x.out.length ≤ 140737488355327 := by omega
    have hcp : siCells b2 p = [.int .i64 p.id, .int .i64 p.year, .str p.town, .sl b2 0 p.traits.length] := rfl
    simp (config := {contextual := true, implicitDefEqProofs := false, maxSteps := 2000000}) [-Int.not_le, -Int.not_lt, argsF, __spec_l1Cur__sightings13_l0, onCur, dlI, dlT, curOf_lit, hcb_c, hbc_c, hbd_c, hat_c.esz, hat_c.len, hat_c.els, hc2, hxb2, hxr2, r0, r1, r2, r3, r4, r5, r6, r7, r8, r9, hlz, hZl, u0, u1, u2, u3, hz', wn, hb1, hb3, hcp]
    refine ⟨fun hw => ⟨⟨_, a4, s4, x.out ++ [p], x.cs ++ [b2], H2.n + 1, IntKind.i64.wrap (IntKind.i64.wrap (IntKind.i64.wrap (x.id + 1) + (y : Int)) - IntKind.i64.wrap ((z : Int) / 149)), x.n - 1⟩, ⟨⟨(by simp only [push_n, set_n, kill_n]; omega), by simp only [push_I, set_I, kill_I]; exact hI2.trans hok.hI, by simp [push_b, set_b, kill_b, onCur, dlI, dlT, curOf_lit, hcb_c, hbc_c, hbd_c, hat_c.esz, hat_c.len, hat_c.els, hc2, hxb2, hxr2, r0, r1, r2, r3, r4, r5, r6, r7, r8, r9, hlz, hZl, u0, u1, u2, u3]; done, (fun j k hjc hj => by have hjn := (hwf j k hj).1; have qj0 : (j = H2.n) = False := eq_false (by omega); have qj1 : (j = H2.n + 1) = False := eq_false (by omega); have qj2 : (j = H2.n + 1 + 1) = False := eq_false (by omega); have qj3 : (j = H2.n + 1 + 1 + 1) = False := eq_false (by omega); have qj4 : (j = H2.n + 1 + 1 + 1 + 1) = False := eq_false (by omega); have qj5 : (j = H2.n + 1 + 1 + 1 + 1 + 1) = False := eq_false (by omega); have qjo : (j = x.ob) = False := eq_false (by omega); simp [push_b, set_b, kill_b, hjc, qj0, qj1, qj2, qj3, qj4, qj5, qjo, hold2 j k hjc (hok.old j k hjc hj)]; done), ?_, by simp only; omega, by simp only; omega, by simp only [List.length_append, List.length_cons, List.length_nil]; omega, by simp only [List.length_append, List.length_cons, List.length_nil]; omega, by simp [hcl], tr_add hcl hok.tr (fun d k hd1 hd2 hd => ?_) ⟨⟨k2, at_keep hat2 ?_⟩, by omega, by simp only; omega⟩, fun q hq => (List.mem_append.1 hq).elim (hok.sh q) fun hq => by rw [List.mem_singleton.1 hq]; exact ⟨htl, htw⟩⟩, by simp only [List.length_append, List.length_cons, List.length_nil]; omega⟩, by simp only; omega, .since (by simp only [push_n, set_n, kill_n]; omega) hw (.refl _) (by simp [frOk, AV.okR, AV.ok1, AC.okR, AV.ren, AV.ren1, AC.ren, AFrame.get, pl1_old, *]; first | done | rfl | omega)⟩⟩
    · exact (push_top _ _ rfl).trans <| congrArg (fun z => some (⟨32, 4, false, false, z⟩ : ABlk)) (siZ_add (p := p) (b := b2) hZ hcl)
    · have h5 := hold2 d k (by omega) hd
      have h6 := (hw2 _ _ h5).1
      have q1 : (d = H2.n) = False := eq_false (by omega)
      have q2 : (d = H2.n + 1) = False := eq_false (by omega)
      have q3 : (d = x.ob) = False := eq_false hd2
      exact ⟨by simp [push_b, set_b, kill_b, q1, q2, q3, h5], by simp only; omega⟩
    · simp [push_b, set_b, kill_b, onCur, dlI, dlT, curOf_lit, hcb_c, hbc_c, hbd_c, hat_c.esz, hat_c.len, hat_c.els, hc2, hxb2, hxr2, r0, r1, r2, r3, r4, r5, r6, r7, r8, r9, hlz, hZl, u0, u1, u2, u3, hat2.blk]
  · have hz' : ¬ 0 < x.n := by omega
    have hlB : 0 ≤ x.a ∧ x.a ≤ 900000000 := by omega
    simp (config := {contextual := true, implicitDefEqProofs := false, maxSteps := 2000000}) [-Int.not_le, -Int.not_lt, argsF, __spec_l1Cur__sightings13_l0, onCur, dlI, dlT, curOf_lit, hcb_c, hbc_c, hbd_c, hat_c.esz, hat_c.len, hat_c.els, hxc, hxb, hxr, r0, r1, r2, r3, p0, p1, p2, hlz, hZl, hz', hlB]
    refine Stop.mk fun o a2 s2 hl2 hu2 => ?_
    cases o with
    | false =>
      simp (config := {contextual := true, implicitDefEqProofs := false, maxSteps := 2000000}) [-Int.not_le, -Int.not_lt, argsF, __spec_l1Cur__sightings13_c, onCur, dlI, dlT, curOf_lit, hcb_c, hbc_c, hbd_c, hat_c.esz, hat_c.len, hat_c.els, hxc, hxb, hxr, r0, r1, r2, r3, p0, p1, p2, hlz, hZl]
      refine Exists.elim hok.at fun k9 hk9 => ?_
      have e9 : k9 = ⟨32, 4, false, false, Z⟩ := Option.some.inj (hk9.blk.symm.trans hxr)
      subst e9
      exact Out.whole (by simp only [push_n, set_n, kill_n]; omega) (by simp [frOk, AV.okR, AV.ok1, AC.okR, AV.ren, AV.ren1, AC.ren, AFrame.get, pl1_old, *]; first | done | rfl | omega) fun hw => Stop.out h _ x.ob _ x.out a2 s2 hw (cur_sub2 hk_c (by simp only [push_n, set_n, kill_n]; omega) (by simp only [push_I, set_I, kill_I]; exact hok.hI) (by simp [push_b, set_b, kill_b, onCur, dlI, dlT, curOf_lit, hcb_c, hbc_c, hbd_c, hat_c.esz, hat_c.len, hat_c.els, hxc, hxb, hxr, r0, r1, r2, r3, p0, p1, p2]; done) (fun j k hjc hj => by have hjn := (hwf j k hj).1; have qj0 : (j = x.H.n) = False := eq_false (by omega); have qj1 : (j = x.H.n + 1) = False := eq_false (by omega); have qj2 : (j = x.H.n + 1 + 1) = False := eq_false (by omega); have qj3 : (j = x.H.n + 1 + 1 + 1) = False := eq_false (by omega); have qj4 : (j = x.H.n + 1 + 1 + 1 + 1) = False := eq_false (by omega); have qj5 : (j = x.H.n + 1 + 1 + 1 + 1 + 1) = False := eq_false (by omega); have qjo : (j = x.ob) = False := eq_false (by omega); simp [push_b, set_b, kill_b, hjc, qj0, qj1, qj2, qj3, qj4, qj5, qjo, hok.old j k hjc hj]; done)) (by omega) ⟨by simp [push_b, set_b, kill_b, onCur, dlI, dlT, curOf_lit, hcb_c, hbc_c, hbd_c, hat_c.esz, hat_c.len, hat_c.els, hxc, hxb, hxr, r0, r1, r2, r3, p0, p1, p2]; done, hk9.esz, hk9.len, decL_x (c := c_p) hok.cur (by simp) (SubX.set hwx (.inl rfl) (SubX.refl _ _) _) hk9.els⟩ (by omega) hok.sh (by omega) (by omega)
    | true =>
      simp (config := {contextual := true, implicitDefEqProofs := false, maxSteps := 2000000}) [-Int.not_le, -Int.not_lt, argsF, __spec_l1Cur__sightings13_c, onCur, dlI, dlT, curOf_lit, hcb_c, hbc_c, hbd_c, hat_c.esz, hat_c.len, hat_c.els, hxc, hxb, hxr, r0, r1, r2, r3, p0, p1, p2, hlz, hZl]
      refine aloop_gen (fun G => DS.Ok ⟨G, a2, s2, [], [], x.H.n, 0, 0⟩ H c_p b_c i_c l_c.length a_c a2 12) ⟨(by simp only [push_n, set_n, kill_n]; omega), (by simp only [push_I, set_I, kill_I]; exact hok.hI), by simp [push_b, set_b, kill_b, onCur, dlI, dlT, curOf_lit, hcb_c, hbc_c, hbd_c, hat_c.esz, hat_c.len, hat_c.els, hxc, hxb, hxr, r0, r1, r2, r3, p0, p1, p2, hlz, hZl]; done, (fun j k hjc hj => by have hjn := (hwf j k hj).1; have qj0 : (j = x.H.n) = False := eq_false (by omega); have qj1 : (j = x.H.n + 1) = False := eq_false (by omega); have qj2 : (j = x.H.n + 1 + 1) = False := eq_false (by omega); have qj3 : (j = x.H.n + 1 + 1 + 1) = False := eq_false (by omega); have qj4 : (j = x.H.n + 1 + 1 + 1 + 1) = False := eq_false (by omega); have qj5 : (j = x.H.n + 1 + 1 + 1 + 1 + 1) = False := eq_false (by omega); have qjo : (j = x.ob) = False := eq_false (by omega); simp [push_b, set_b, kill_b, hjc, qj0, qj1, qj2, qj3, qj4, qj5, qjo, hok.old j k hjc hj]; done), by simp [push_b, set_b, kill_b, onCur, dlI, dlT, curOf_lit, hcb_c, hbc_c, hbd_c, hat_c.esz, hat_c.len, hat_c.els, hxc, hxb, hxr, r0, r1, r2, r3, p0, p1, p2, hlz, hZl]; done, by simp only; omega, by simp only; omega, Int.le_refl _, Nat.zero_le _, rfl, fun j d p hd => by simp at hd, fun p hp => by cases hp⟩ fun G hG => ?_
      have hup : a2 ≤ a_c + 4000 := by omega
      have hlo : a_c ≤ a2 := by omega
      clear hok hwx hxb hxc hxr hob hbq a0 a1' hln hbx hnx hnn hz hz' hlB hl2 hu2 hcl hZl hlz hZ Z
      clear r0 r1 r2 r3 p0 p1 p2
      refine aloop_heap (X := DS) (fun x => [(0, .c (.ptr c_p 0 0)), (3, .c (.sl (x.ob) (0) (x.out.length))), (6, .c (.int .i64 ((x.n : Int))))]) (fun x => x.H) (fun x => x.Ok H c_p b_c i_c l_c.length a_c (a2 + 2 * (x.n : Int)) 12 ∧ x.n = x.out.length) (fun x => 20 - x.n) hE _ ⟨G, a2, s2, [], [], x.H.n, 0, 0⟩ ⟨⟨hG.hn, hG.hI, hG.cur, hG.old, hG.row, hG.hob, hG.at0, by show a2 ≤ a2 + 2 * ((0 : Nat) : Int); omega, hG.len, hG.cl, hG.tr, hG.sh⟩, rfl⟩ (fun hw0 => by have q1 := (hw0 _ _ hG.row).1; have q3 : H.n ≤ G.n := hG.hn; simp only at q1; exact .since hG.hn hw0 (.refl _) (by simp [frOk, AV.okR, AV.ok1, AC.okR, AV.ren, AV.ren1, AC.ren, AFrame.get, pl1_old, *]; first | done | rfl | omega)) (fun x hxx hwx => ?_)
      obtain ⟨hok, hnn⟩ := hxx
      have hxb : x.H.b b_c = some k_c := hok.old b_c k_c (Ne.symm hcb_c) hat_c.blk
      have hxc := hok.cur
      have hxr := hok.row
      have hob := hok.hob
      have hbq := (hwx _ _ hok.row).1
      have a0 := hok.at0
      have a1' := hok.at1
      have hln := hok.len
      have hnx := hok.hn
      have hbx : b_c < x.H.n := by omega
      have hcx : c_p < x.H.n := by omega
      have r0 : (x.ob = c_p) = False := eq_false (by omega)
      have r1 : (c_p = x.ob) = False := eq_false (by omega)
      have r2 : (x.ob = b_c) = False := eq_false (by omega)
      have r3 : (b_c = x.ob) = False := eq_false (by omega)
      have p0 := ne5_of (a := c_p) (b := x.H.n) (by omega)
      have p1 := ne5_of (a := b_c) (b := x.H.n) (by omega)
      have p2 := ne5_of (a := x.ob) (b := x.H.n) (by omega)
      have hcl := hok.cl
      obtain ⟨Z, hZ⟩ : ∃ Z, List.zipWith siCells x.cs x.out = Z := ⟨_, rfl⟩
      have hZl := siZ_len hZ hcl
      rw [hZ] at hxr
      have hlz : x.out.length ≤ Z.length := by omega
      have hlB : 0 ≤ x.a ∧ x.a ≤ 900000000 := by omega
      simp (config := {contextual := true, implicitDefEqProofs := false, maxSteps := 2000000}) [-Int.not_le, -Int.not_lt, argsF, __spec_l1Cur__sightings13_l1, onCur, dlI, dlT, curOf_lit, hcb_c, hbc_c, hbd_c, hat_c.esz, hat_c.len, hat_c.els, hxc, hxb, hxr, r0, r1, r2, r3, p0, p1, p2, hlz, hZl, hlB]
      refine Stop.mk fun z a3 s3 hl3 hu3 hz3 => ?_
      have hz4 := hz3 (by omega)
      have wz : IntKind.i64.wrap (10 + (z : Int)) = 10 + (z : Int) := wrap_id (by omega) (by omega)
      have wn : IntKind.i64.wrap ((x.n : Int) + 1) = (x.n : Int) + 1 := wrap_id (by omega) (by omega)
      by_cases hc : (x.n : Int) < 10 + (z : Int)
      · have hb1 : (x.out.length + 1) * 56 ≤ 140737488355328 := by omega
        have hb3 : x.out.length ≤ 140737488355327 := by omega
        simp (config := {contextual := true, implicitDefEqProofs := false, maxSteps := 2000000}) [-Int.not_le, -Int.not_lt, argsF, __spec_l1Cur__sightings13_l1, onCur, dlI, dlT, curOf_lit, hcb_c, hbc_c, hbd_c, hat_c.esz, hat_c.len, hat_c.els, hxc, hxb, hxr, r0, r1, r2, r3, p0, p1, p2, hlz, hZl, wz, wn, hc, hb1, hb3]
        refine ⟨fun hw => ⟨⟨_, a3, s3, x.out ++ [⟨(x.n : Int) + 1, IntKind.i64.wrap (1900 + (x.n : Int)), [98, 101, 114, 110], [IntKind.i64.wrap (1 + (x.n : Int)), IntKind.i64.wrap (2 + (x.n : Int))]⟩], x.cs ++ [x.H.n], x.H.n + 1 + 1, 0, x.n + 1⟩, ⟨⟨(by simp only [push_n, set_n, kill_n]; omega), (by simp only [push_I, set_I, kill_I]; exact hok.hI), by simp [push_b, set_b, kill_b, onCur, dlI, dlT, curOf_lit, hcb_c, hbc_c, hbd_c, hat_c.esz, hat_c.len, hat_c.els, hxc, hxb, hxr, r0, r1, r2, r3, p0, p1, p2, hlz, hZl]; done, (fun j k hjc hj => by have hjn := (hwf j k hj).1; have qj0 : (j = x.H.n) = False := eq_false (by omega); have qj1 : (j = x.H.n + 1) = False := eq_false (by omega); have qj2 : (j = x.H.n + 1 + 1) = False := eq_false (by omega); have qj3 : (j = x.H.n + 1 + 1 + 1) = False := eq_false (by omega); have qj4 : (j = x.H.n + 1 + 1 + 1 + 1) = False := eq_false (by omega); have qj5 : (j = x.H.n + 1 + 1 + 1 + 1 + 1) = False := eq_false (by omega); have qjo : (j = x.ob) = False := eq_false (by omega); simp [push_b, set_b, kill_b, hjc, qj0, qj1, qj2, qj3, qj4, qj5, qjo, hok.old j k hjc hj]; done), ?_, by simp only; omega, by simp only; omega, by simp only; omega, by simp only [List.length_append, List.length_cons, List.length_nil]; omega, by simp [hcl], tr_add hcl hok.tr (fun d k hd1 hd2 hd => ?_) ⟨⟨rowK eI 3 [IntKind.i64.wrap (1 + (x.n : Int)), IntKind.i64.wrap (2 + (x.n : Int))], ?_, rfl, by simp, by simp⟩, by omega, by simp only; omega⟩, fun q hq => (List.mem_append.1 hq).elim (hok.sh q) fun hq => by rw [List.mem_singleton.1 hq]; exact ⟨by show List.length [_, _] ≤ 12; simp, by show List.length [_, _, _, _] ≤ 100; simp⟩⟩, by simp only [List.length_append, List.length_cons, List.length_nil]; omega⟩, by simp only; omega, .since (by simp only [push_n, set_n, kill_n]; omega) hw (.refl _) (by simp [frOk, AV.okR, AV.ok1, AC.okR, AV.ren, AV.ren1, AC.ren, AFrame.get, pl1_old, *]; first | done | rfl | omega)⟩⟩
        · exact (push_top _ _ rfl).trans <| congrArg (fun z => some (⟨32, 4, false, false, z⟩ : ABlk)) (siZ_add (p := ⟨(x.n : Int) + 1, IntKind.i64.wrap (1900 + (x.n : Int)), [98, 101, 114, 110], [IntKind.i64.wrap (1 + (x.n : Int)), IntKind.i64.wrap (2 + (x.n : Int))]⟩) (b := x.H.n) hZ hcl)
        · have h6 := (hwx _ _ hd).1
          have q1 : (d = x.H.n) = False := eq_false (by omega)
          have q2 : (d = x.H.n + 1) = False := eq_false (by omega)
          have q3 : (d = x.ob) = False := eq_false hd2
          have q4 : (d = c_p) = False := eq_false (by omega)
          have q5 : (d = x.H.n + 1 + 1) = False := eq_false (by omega)
          exact ⟨by simp [push_b, set_b, kill_b, q1, q2, q3, q4, q5, hd], by simp only; omega⟩
        · simp [push_b, set_b, kill_b, onCur, dlI, dlT, curOf_lit, hcb_c, hbc_c, hbd_c, hat_c.esz, hat_c.len, hat_c.els, hxc, hxb, hxr, r0, r1, r2, r3, p0, p1, p2, hlz, hZl, rowK]
      · simp (config := {contextual := true, implicitDefEqProofs := false, maxSteps := 2000000}) [-Int.not_le, -Int.not_lt, argsF, __spec_l1Cur__sightings13_l1, onCur, dlI, dlT, curOf_lit, hcb_c, hbc_c, hbd_c, hat_c.esz, hat_c.len, hat_c.els, hxc, hxb, hxr, r0, r1, r2, r3, p0, p1, p2, hlz, hZl, wz, wn, hc]
        refine Exists.elim hok.at fun k9 hk9 => ?_
        have e9 : k9 = ⟨32, 4, false, false, Z⟩ := Option.some.inj (hk9.blk.symm.trans hxr)
        subst e9
        exact Out.whole (by simp only [push_n, set_n, kill_n]; omega) (by simp [frOk, AV.okR, AV.ok1, AC.okR, AV.ren, AV.ren1, AC.ren, AFrame.get, pl1_old, *]; first | done | rfl | omega) fun hw => Stop.out h _ x.ob _ x.out a3 s3 hw (cur_sub2 hk_c (by simp only [push_n, set_n, kill_n]; omega) (by simp only [push_I, set_I, kill_I]; exact hok.hI) (by simp [push_b, set_b, kill_b, onCur, dlI, dlT, curOf_lit, hcb_c, hbc_c, hbd_c, hat_c.esz, hat_c.len, hat_c.els, hxc, hxb, hxr, r0, r1, r2, r3, p0, p1, p2]; done) (fun j k hjc hj => by have hjn := (hwf j k hj).1; have qj0 : (j = x.H.n) = False := eq_false (by omega); have qj1 : (j = x.H.n + 1) = False := eq_false (by omega); have qj2 : (j = x.H.n + 1 + 1) = False := eq_false (by omega); have qj3 : (j = x.H.n + 1 + 1 + 1) = False := eq_false (by omega); have qj4 : (j = x.H.n + 1 + 1 + 1 + 1) = False := eq_false (by omega); have qj5 : (j = x.H.n + 1 + 1 + 1 + 1 + 1) = False := eq_false (by omega); have qjo : (j = x.ob) = False := eq_false (by omega); simp [push_b, set_b, kill_b, hjc, qj0, qj1, qj2, qj3, qj4, qj5, qjo, hok.old j k hjc hj]; done)) (by omega) ⟨by simp [push_b, set_b, kill_b, onCur, dlI, dlT, curOf_lit, hcb_c, hbc_c, hbd_c, hat_c.esz, hat_c.len, hat_c.els, hxc, hxb, hxr, r0, r1, r2, r3, p0, p1, p2]; done, hk9.esz, hk9.len, decL_x (c := c_p) hok.cur (by simp) (SubX.set hwx (.inl rfl) (SubX.refl _ _) _) hk9.els⟩ (by omega) hok.sh (by omega) (by omega)

set_option maxHeartbeats 2000000

def q_sid13 : Con := fun args H K => match args with
  | [.c (.ptr c_p 0 0), ps_v] => onCur H c_p 800000000 fun b_c i_c n_c a_c s_c => eSi.rd H (fun ps => Stop (∀ (x a' s' : Int), a_c ≤ a' → a' ≤ a_c + 6 → K (.c (.int .i64 (x))) (H.set c_p (curK b_c i_c n_c a' s'))) ()) ps_v
  | _ => False
@[simp ↓] theorem q_sid13_eq (c_p : Nat) (ps_v : AV) (H : AHeap) (K : AV → AHeap → Prop) : q_sid13 [.c (.ptr c_p 0 0), ps_v] H K = (onCur H c_p 800000000 fun b_c i_c n_c a_c s_c => eSi.rd H (fun ps => Stop (∀ (x a' s' : Int), a_c ≤ a' → a' ≤ a_c + 6 → K (.c (.int .i64 (x))) (H.set c_p (curK b_c i_c n_c a' s'))) ()) ps_v) := rfl

theorem spec_l1Cur__sightingId_s : Sound Tryz.prog 43 q_sid13 := by
  intro args H K h
  unfold q_sid13 at h
  split at h
  rotate_left
  all_goals first | exact False.elim h | skip
  rename_i c_p ps_v
  have h1 := onCur_iff.1 h
  clear h
  obtain ⟨b_c, i_c, n_c, a_c, s_c, k_c, l_c, hk_c, hcb_c, h0_c, hlim_c, hat_c, rfl, h⟩ := h1
  have h1 := EncH.rd_at h
  clear h
  obtain ⟨b_ps, i_ps, k_ps, ps, rfl, hat_ps, h⟩ := h1
  have hE := soundE_cons spec_l1Cur__one_s (soundE_cons spec_l1Cur__among_s (soundE_cons spec_l1Cur__pick_s (soundE_nil (P := Tryz.prog))))
  refine acalls_fn __spec_l1Cur__sightingId_k hE ⟨by simp, fun hwf => ?_⟩
  obtain ⟨hsr, hsp, hst, hss, hsk⟩ := hs_of hwf
  have hon_ps := hat_ps.on
  have hb_ps : b_ps < H.n := (hwf b_ps k_ps hat_ps.blk).1
  have hne_ps : (b_ps = H.n) = False := eq_false (by omega)
  have hne1_ps : ∀ i, (b_ps = H.n + i) = False := fun i => eq_false (by omega)
  have hne2_ps := ne2_of (a := b_ps) (b := H.n) (by omega)
  have hmx_ps : ps.length ≤ 9223372036854775807 := by have h1 := (hwf b_ps k_ps hat_ps.blk).2.2; have h2 := hat_ps.len; omega
  have hb_c : b_c < H.n := (hwf b_c k_c hat_c.blk).1
  have hp_c : c_p < H.n := (hwf c_p _ hk_c).1
  have hbc_c : (b_c = c_p) = False := eq_false (Ne.symm hcb_c)
  have hbd_c : (c_p = b_c) = False := eq_false hcb_c
  have hne_c : (b_c = H.n) = False := eq_false (by omega)
  have hnp_c : (c_p = H.n) = False := eq_false (by omega)
  have hne1_c : ∀ i, (b_c = H.n + i) = False := fun i => eq_false (by omega)
  have hnp1_c : ∀ i, (c_p = H.n + i) = False := fun i => eq_false (by omega)
  have hne2_c := ne2_of (a := b_c) (b := H.n) (by omega)
  have hne2_cp := ne2_of (a := c_p) (b := H.n) (by omega)
  have hnq_c : (H.n = c_p) = False := eq_false (by omega)
  have hnq1_c : ∀ i, (H.n + i = c_p) = False := fun i => eq_false (by omega)
  have hnb_c : (H.n = b_c) = False := eq_false (by omega)
  have hnb1_c : ∀ i, (H.n + i = b_c) = False := fun i => eq_false (by omega)
  have hnr2_cp := nr2_of (a := c_p) (b := H.n) (by omega)
  have hnr2_c := nr2_of (a := b_c) (b := H.n) (by omega)
  have hmx_c : l_c.length ≤ 9223372036854775807 := by have h1 := (hwf b_c k_c hat_c.blk).2.2; have h2 := hat_c.len; omega
  have hl9 : a_c ≤ 900000000 := by omega
  have hpc : (b_ps = c_p) = False := eq_false (fun e => by have h1 := hat_ps.blk; rw [e, hk_c] at h1; have h2 := hat_ps.esz; rw [← Option.some.inj h1] at h2; cases h2)
  have hpd : (c_p = b_ps) = False := eq_false (fun e => of_eq_false hpc e.symm)
  by_cases hp : ps.length = 0
  · have e := List.eq_nil_of_length_eq_zero hp
    subst e
    simp (config := {contextual := true, implicitDefEqProofs := false, maxSteps := 2000000}) [-Int.not_le, -Int.not_lt, argsF, __spec_l1Cur__sightingId_c, hat_ps.blk, hat_ps.esz, hat_ps.len, hon_ps, hne_ps, hne1_ps, hne2_ps, onCur, dlI, dlT, hk_c, hcb_c, hbc_c, hbd_c, h0_c, hlim_c, hat_c.blk, hat_c.esz, hat_c.len, hat_c.els, hne_c, hnp_c, hne1_c, hnp1_c, hnq_c, hnq1_c, hnb_c, hnb1_c, hne2_c, hne2_cp, hnr2_c, hnr2_cp, hpc, hpd, hl9]
    refine Stop.mk fun x a1 s1 hx hl hu => ?_
    simp (config := {contextual := true, implicitDefEqProofs := false, maxSteps := 2000000}) [-Int.not_le, -Int.not_lt, argsF, __spec_l1Cur__sightingId_c]
    exact .old (H := H.set c_p _) (cur_wf hwf hk_c _ _) (cur_sub hwf hk_c (by simp only [push_n, set_n, kill_n]; omega) (by simp only [push_I, set_I, kill_I]) (by simp [push_b, set_b, kill_b, hnp_c, hnp1_c, hne2_cp]; done) (fun j hj hjc => by have hnj : (j = H.n) = False := eq_false (by omega); have hnj1 : ∀ i, (j = H.n + i) = False := fun i => eq_false (by omega); have hne2_j := ne2_of (a := j) (b := H.n) (by omega);  simp [push_b, set_b, kill_b, hjc, hnj, hnj1, hne2_j]; done)) (by simp [frOk, AV.okR, AV.ok1, AC.okR, AV.ren, AV.ren1, AC.ren, AFrame.get, pl1_old, *]; first | done | rfl | omega) (Stop.out h x a1 s1 hl (by omega))
  have hp1 : ¬ ps = [] := fun e => hp (by rw [e]; rfl)
  simp (config := {contextual := true, implicitDefEqProofs := false, maxSteps := 2000000}) [-Int.not_le, -Int.not_lt, argsF, __spec_l1Cur__sightingId_c, hat_ps.blk, hat_ps.esz, hat_ps.len, hon_ps, hne_ps, hne1_ps, hne2_ps, onCur, dlI, dlT, hk_c, hcb_c, hbc_c, hbd_c, h0_c, hlim_c, hat_c.blk, hat_c.esz, hat_c.len, hat_c.els, hne_c, hnp_c, hne1_c, hnp1_c, hnq_c, hnq1_c, hnb_c, hnb1_c, hne2_c, hne2_cp, hnr2_c, hnr2_cp, hpc, hpd, hl9, hp, hp1]
  refine Stop.mk fun o a1 s1 hl hu => ?_
  have hlA : 0 ≤ a1 ∧ a1 ≤ 900000000 := by omega
  cases o with
  | true =>
    simp (config := {contextual := true, implicitDefEqProofs := false, maxSteps := 2000000}) [-Int.not_le, -Int.not_lt, argsF, __spec_l1Cur__sightingId_c, hat_ps.blk, hat_ps.esz, hat_ps.len, hon_ps, hne_ps, hne1_ps, hne2_ps, onCur, dlI, dlT, hk_c, hcb_c, hbc_c, hbd_c, h0_c, hlim_c, hat_c.blk, hat_c.esz, hat_c.len, hat_c.els, hne_c, hnp_c, hne1_c, hnp1_c, hnq_c, hnq1_c, hnb_c, hnb1_c, hne2_c, hne2_cp, hnr2_c, hnr2_cp, hpc, hpd, hlA]
    refine Stop.mk fun x a2 s2 hx hl2 hu2 => ?_
    simp (config := {contextual := true, implicitDefEqProofs := false, maxSteps := 2000000}) [-Int.not_le, -Int.not_lt, argsF, __spec_l1Cur__sightingId_c]
    exact .old (H := H.set c_p _) (cur_wf hwf hk_c _ _) (cur_sub hwf hk_c (by simp only [push_n, set_n, kill_n]; omega) (by simp only [push_I, set_I, kill_I]) (by simp [push_b, set_b, kill_b, hnp_c, hnp1_c, hne2_cp]; done) (fun j hj hjc => by have hnj : (j = H.n) = False := eq_false (by omega); have hnj1 : ∀ i, (j = H.n + i) = False := fun i => eq_false (by omega); have hne2_j := ne2_of (a := j) (b := H.n) (by omega);  simp [push_b, set_b, kill_b, hjc, hnj, hnj1, hne2_j]; done)) (by simp [frOk, AV.okR, AV.ok1, AC.okR, AV.ren, AV.ren1, AC.ren, AFrame.get, pl1_old, *]; first | done | rfl | omega) (Stop.out h x a2 s2 (by omega) (by omega))
  | false =>
    simp (config := {contextual := true, implicitDefEqProofs := false, maxSteps := 2000000}) [-Int.not_le, -Int.not_lt, argsF, __spec_l1Cur__sightingId_c, hat_ps.blk, hat_ps.esz, hat_ps.len, hon_ps, hne_ps, hne1_ps, hne2_ps, onCur, dlI, dlT, hk_c, hcb_c, hbc_c, hbd_c, h0_c, hlim_c, hat_c.blk, hat_c.esz, hat_c.len, hat_c.els, hne_c, hnp_c, hne1_c, hnp1_c, hnq_c, hnq1_c, hnb_c, hnb1_c, hne2_c, hne2_cp, hnr2_c, hnr2_cp, hpc, hpd, hlA, hp]
    refine Stop.mk fun x a2 s2 hl2 hu2 hx => ?_
    have hx2 : x < ps.length := by have := hx (by omega); omega
    have hj1 := idx_lt hx2
    obtain ⟨ex_w, e_w, hd_w⟩ := hat_ps.get hx2
    obtain ⟨b_w, i_w, k_w, rfl, hat_w, htx_w⟩ := eSi_at hd_w
    have hb_w : b_w < H.n := (hwf b_w k_w hat_w.blk).1
    have hne_w : (b_w = H.n) = False := eq_false (by omega)
    have hne1_w : ∀ i, (b_w = H.n + i) = False := fun i => eq_false (by omega)
    have hne2_w := ne2_of (a := b_w) (b := H.n) (by omega)
    simp (config := {contextual := true, implicitDefEqProofs := false, maxSteps := 2000000}) [-Int.not_le, -Int.not_lt, argsF, __spec_l1Cur__sightingId_c, hat_ps.blk, hat_ps.esz, hat_ps.len, hon_ps, hne_ps, hne1_ps, hne2_ps, onCur, dlI, dlT, hk_c, hcb_c, hbc_c, hbd_c, h0_c, hlim_c, hat_c.blk, hat_c.esz, hat_c.len, hat_c.els, hne_c, hnp_c, hne1_c, hnp1_c, hnq_c, hnq1_c, hnb_c, hnb1_c, hne2_c, hne2_cp, hnr2_c, hnr2_cp, hpc, hpd, hx2, hj1, e_w]
    exact .old (H := H.set c_p _) (cur_wf hwf hk_c _ _) (cur_sub hwf hk_c (by simp only [push_n, set_n, kill_n]; omega) (by simp only [push_I, set_I, kill_I]) (by simp [push_b, set_b, kill_b, hnp_c, hnp1_c, hne2_cp]; done) (fun j hj hjc => by have hnj : (j = H.n) = False := eq_false (by omega); have hnj1 : ∀ i, (j = H.n + i) = False := fun i => eq_false (by omega); have hne2_j := ne2_of (a := j) (b := H.n) (by omega);  simp [push_b, set_b, kill_b, hjc, hnj, hnj1, hne2_j]; done)) (by simp [frOk, AV.okR, AV.ok1, AC.okR, AV.ren, AV.ren1, AC.ren, AFrame.get, pl1_old, *]; first | done | rfl | omega) (Stop.out h _ a2 s2 (by omega) (by omega))

def q_lim13 : Con := fun args H K => match args with
  | [.c (.ptr c_p 0 0)] => onCur H c_p 800000000 fun b_c i_c n_c a_c s_c => Stop (∀ (x a' s' : Int), a_c ≤ a' → a' ≤ a_c + 6 → K (.c (.int .i64 (x))) (H.set c_p (curK b_c i_c n_c a' s'))) ()
  | _ => False
@[simp ↓] theorem q_lim13_eq (c_p : Nat) (H : AHeap) (K : AV → AHeap → Prop) : q_lim13 [.c (.ptr c_p 0 0)] H K = (onCur H c_p 800000000 fun b_c i_c n_c a_c s_c => Stop (∀ (x a' s' : Int), a_c ≤ a' → a' ≤ a_c + 6 → K (.c (.int .i64 (x))) (H.set c_p (curK b_c i_c n_c a' s'))) ()) := rfl

theorem spec_l1Cur__limit13_s : Sound Tryz.prog 42 q_lim13 := by
  intro args H K h
  unfold q_lim13 at h
  split at h
  rotate_left
  all_goals first | exact False.elim h | skip
  rename_i c_p
  have h1 := onCur_iff.1 h
  clear h
  obtain ⟨b_c, i_c, n_c, a_c, s_c, k_c, l_c, hk_c, hcb_c, h0_c, hlim_c, hat_c, rfl, h⟩ := h1
  have hE := soundE_cons spec_l1Cur__among_s (soundE_cons spec_l1Cur__pick_s (soundE_nil (P := Tryz.prog)))
  refine acalls_fn __spec_l1Cur__limit13_k hE ⟨by simp, fun hwf => ?_⟩
  have hb_c : b_c < H.n := (hwf b_c k_c hat_c.blk).1
  have hp_c : c_p < H.n := (hwf c_p _ hk_c).1
  have hbc_c : (b_c = c_p) = False := eq_false (Ne.symm hcb_c)
  have hbd_c : (c_p = b_c) = False := eq_false hcb_c
  have hne_c : (b_c = H.n) = False := eq_false (by omega)
  have hnp_c : (c_p = H.n) = False := eq_false (by omega)
  have hne1_c : ∀ i, (b_c = H.n + i) = False := fun i => eq_false (by omega)
  have hnp1_c : ∀ i, (c_p = H.n + i) = False := fun i => eq_false (by omega)
  have hne2_c := ne2_of (a := b_c) (b := H.n) (by omega)
  have hne2_cp := ne2_of (a := c_p) (b := H.n) (by omega)
  have hnq_c : (H.n = c_p) = False := eq_false (by omega)
  have hnq1_c : ∀ i, (H.n + i = c_p) = False := fun i => eq_false (by omega)
  have hnb_c : (H.n = b_c) = False := eq_false (by omega)
  have hnb1_c : ∀ i, (H.n + i = b_c) = False := fun i => eq_false (by omega)
  have hnr2_cp := nr2_of (a := c_p) (b := H.n) (by omega)
  have hnr2_c := nr2_of (a := b_c) (b := H.n) (by omega)
  have hmx_c : l_c.length ≤ 9223372036854775807 := by have h1 := (hwf b_c k_c hat_c.blk).2.2; have h2 := hat_c.len; omega
  have hl9 : a_c ≤ 900000000 := by omega
  have td : ∀ x : Nat, (x : Int).tdiv 11 = ((x / 11 : Nat) : Int) := fun x => by rw [Int.tdiv_eq_ediv_of_nonneg (by omega)]; omega
  simp (config := {contextual := true, implicitDefEqProofs := false, maxSteps := 2000000}) [-Int.not_le, -Int.not_lt, argsF, __spec_l1Cur__limit13_c, onCur, dlI, dlT, hk_c, hcb_c, hbc_c, hbd_c, h0_c, hlim_c, hat_c.blk, hat_c.esz, hat_c.len, hat_c.els, hne_c, hnp_c, hne1_c, hnp1_c, hnq_c, hnq1_c, hnb_c, hnb1_c, hne2_c, hne2_cp, hnr2_c, hnr2_cp, hl9]
  refine Stop.mk fun x a1 s1 hl1 hu1 hx => ?_
  have hx1 := hx (by omega)
  have hlA : 0 ≤ a1 ∧ a1 ≤ 900000000 := by omega
  rcases (show x / 11 = 0 ∨ x / 11 = 1 ∨ x / 11 = 2 by omega) with hq | hq | hq
  · simp (config := {contextual := true, implicitDefEqProofs := false, maxSteps := 2000000}) [-Int.not_le, -Int.not_lt, argsF, __spec_l1Cur__limit13_c, onCur, dlI, dlT, hk_c, hcb_c, hbc_c, hbd_c, h0_c, hlim_c, hat_c.blk, hat_c.esz, hat_c.len, hat_c.els, hne_c, hnp_c, hne1_c, hnp1_c, hnq_c, hnq1_c, hnb_c, hnb1_c, hne2_c, hne2_cp, hnr2_c, hnr2_cp, hlA, td, hq, wrap_id]
    refine Stop.mk fun y a2 s2 hy hl2 hu2 => ?_
    simp (config := {contextual := true, implicitDefEqProofs := false, maxSteps := 2000000}) [-Int.not_le, -Int.not_lt, argsF, __spec_l1Cur__limit13_c]
    exact .old (H := H.set c_p _) (cur_wf hwf hk_c _ _) (cur_sub hwf hk_c (by simp only [push_n, set_n, kill_n]; omega) (by simp only [push_I, set_I, kill_I]) (by simp [push_b, set_b, kill_b, hnp_c, hnp1_c, hne2_cp]; done) (fun j hj hjc => by have hnj : (j = H.n) = False := eq_false (by omega); have hnj1 : ∀ i, (j = H.n + i) = False := fun i => eq_false (by omega); have hne2_j := ne2_of (a := j) (b := H.n) (by omega);  simp [push_b, set_b, kill_b, hjc, hnj, hnj1, hne2_j]; done)) (by simp [frOk, AV.okR, AV.ok1, AC.okR, AV.ren, AV.ren1, AC.ren, AFrame.get, pl1_old, *]; first | done | rfl | omega) (Stop.out h y a2 s2 (by omega) (by omega))
  · simp (config := {contextual := true, implicitDefEqProofs := false, maxSteps := 2000000}) [-Int.not_le, -Int.not_lt, argsF, __spec_l1Cur__limit13_c, onCur, dlI, dlT, hk_c, hcb_c, hbc_c, hbd_c, h0_c, hlim_c, hat_c.blk, hat_c.esz, hat_c.len, hat_c.els, hne_c, hnp_c, hne1_c, hnp1_c, hnq_c, hnq1_c, hnb_c, hnb1_c, hne2_c, hne2_cp, hnr2_c, hnr2_cp, hlA, td, hq, wrap_id]
    refine Stop.mk fun y a2 s2 hy hl2 hu2 => ?_
    simp (config := {contextual := true, implicitDefEqProofs := false, maxSteps := 2000000}) [-Int.not_le, -Int.not_lt, argsF, __spec_l1Cur__limit13_c]
    exact .old (H := H.set c_p _) (cur_wf hwf hk_c _ _) (cur_sub hwf hk_c (by simp only [push_n, set_n, kill_n]; omega) (by simp only [push_I, set_I, kill_I]) (by simp [push_b, set_b, kill_b, hnp_c, hnp1_c, hne2_cp]; done) (fun j hj hjc => by have hnj : (j = H.n) = False := eq_false (by omega); have hnj1 : ∀ i, (j = H.n + i) = False := fun i => eq_false (by omega); have hne2_j := ne2_of (a := j) (b := H.n) (by omega);  simp [push_b, set_b, kill_b, hjc, hnj, hnj1, hne2_j]; done)) (by simp [frOk, AV.okR, AV.ok1, AC.okR, AV.ren, AV.ren1, AC.ren, AFrame.get, pl1_old, *]; first | done | rfl | omega) (Stop.out h y a2 s2 (by omega) (by omega))
  · simp (config := {contextual := true, implicitDefEqProofs := false, maxSteps := 2000000}) [-Int.not_le, -Int.not_lt, argsF, __spec_l1Cur__limit13_c, onCur, dlI, dlT, hk_c, hcb_c, hbc_c, hbd_c, h0_c, hlim_c, hat_c.blk, hat_c.esz, hat_c.len, hat_c.els, hne_c, hnp_c, hne1_c, hnp1_c, hnq_c, hnq1_c, hnb_c, hnb1_c, hne2_c, hne2_cp, hnr2_c, hnr2_cp, hlA, td, hq, wrap_id]
    refine Stop.mk fun y a2 s2 hy hl2 hu2 => ?_
    simp (config := {contextual := true, implicitDefEqProofs := false, maxSteps := 2000000}) [-Int.not_le, -Int.not_lt, argsF, __spec_l1Cur__limit13_c]
    exact .old (H := H.set c_p _) (cur_wf hwf hk_c _ _) (cur_sub hwf hk_c (by simp only [push_n, set_n, kill_n]; omega) (by simp only [push_I, set_I, kill_I]) (by simp [push_b, set_b, kill_b, hnp_c, hnp1_c, hne2_cp]; done) (fun j hj hjc => by have hnj : (j = H.n) = False := eq_false (by omega); have hnj1 : ∀ i, (j = H.n + i) = False := fun i => eq_false (by omega); have hne2_j := ne2_of (a := j) (b := H.n) (by omega);  simp [push_b, set_b, kill_b, hjc, hnj, hnj1, hne2_j]; done)) (by simp [frOk, AV.okR, AV.ok1, AC.okR, AV.ren, AV.ren1, AC.ren, AFrame.get, pl1_old, *]; first | done | rfl | omega) (Stop.out h y a2 s2 (by omega) (by omega))

def q_DEv : Con := fun args H K => match args with
  | [code_v] => eU.rd H (fun code => code.length ≤ 65536 ∧ Stop (∀ (H' : AHeap) (b : Nat) (k : ABlk) (ps : List Si) (i j : Int), H'.WF → Sub H H' → eSi.At H' b 0 k ps → ps.length ≤ 12 → (∀ p ∈ ps, shS p) → K (.tup [.c (.sl (b) (0) (ps.length)), .c (.int .i64 (i)), .c (.int .i64 (j))]) H') ()) code_v
  | _ => False
@[simp ↓] theorem q_DEv_eq (code_v : AV) (H : AHeap) (K : AV → AHeap → Prop) : q_DEv [code_v] H K = (eU.rd H (fun code => code.length ≤ 65536 ∧ Stop (∀ (H' : AHeap) (b : Nat) (k : ABlk) (ps : List Si) (i j : Int), H'.WF → Sub H H' → eSi.At H' b 0 k ps → ps.length ≤ 12 → (∀ p ∈ ps, shS p) → K (.tup [.c (.sl (b) (0) (ps.length)), .c (.int .i64 (i)), .c (.int .i64 (j))]) H') ()) code_v) := rfl

def q_DCv : Con := fun args H K => match args with
  | [code_v] => eU.rd H (fun code => code.length ≤ 65536 ∧ Stop (∀ (H' : AHeap) (b : Nat) (k : ABlk) (ps : List Si) (i : Int), H'.WF → Sub H H' → eSi.At H' b 0 k ps → ps.length ≤ 12 → (∀ p ∈ ps, shS p) → K (.tup [.c (.sl (b) (0) (ps.length)), .c (.int .i64 (i))]) H') ()) code_v
  | _ => False
@[simp ↓] theorem q_DCv_eq (code_v : AV) (H : AHeap) (K : AV → AHeap → Prop) : q_DCv [code_v] H K = (eU.rd H (fun code => code.length ≤ 65536 ∧ Stop (∀ (H' : AHeap) (b : Nat) (k : ABlk) (ps : List Si) (i : Int), H'.WF → Sub H H' → eSi.At H' b 0 k ps → ps.length ≤ 12 → (∀ p ∈ ps, shS p) → K (.tup [.c (.sl (b) (0) (ps.length)), .c (.int .i64 (i))]) H') ()) code_v) := rfl

theorem spec_DrawCoversSeen_s : Sound Tryz.prog 33 q_DCv := by
  intro args H K h
  unfold q_DCv at h
  split at h
  rotate_left
  all_goals first | exact False.elim h | skip
  rename_i code_v
  have h1 := Enc.rd_at h
  clear h
  obtain ⟨b_code, i_code, k_code, code, rfl, hat_code, h⟩ := h1
  have hE := soundE_cons spec_l1Cur__sightings13_s (soundE_cons spec_l1Cur__limit13_s (soundE_nil (P := Tryz.prog)))
  refine acalls_fn spec_DrawCoversSeen_k hE ⟨by simp, fun hwf => ?_⟩
  have hb_code : b_code < H.n := (hwf b_code k_code hat_code.blk).1
  have hne_code : (b_code = H.n) = False := eq_false (by omega)
  have hne1_code : ∀ i, (b_code = H.n + i) = False := fun i => eq_false (by omega)
  have hne2_code := ne2_of (a := b_code) (b := H.n) (by omega)
  have hmx_code : code.length ≤ 9223372036854775807 := by have h1 := (hwf b_code k_code hat_code.blk).2.2; have h2 := hat_code.len; omega
  obtain ⟨hcl, h⟩ := h
  have hr0_code : (H.n = b_code) = False := eq_false (by omega)
  have hr1_code : ∀ i, (H.n + i = b_code) = False := fun i => eq_false (by omega)
  have hnr2_code := nr2_of (a := b_code) (b := H.n) (by omega)
  simp (config := {contextual := true, implicitDefEqProofs := false, maxSteps := 2000000}) [-Int.not_le, -Int.not_lt, argsF, spec_DrawCoversSeen_c, hr0_code, hr1_code, hnr2_code, hat_code.blk, hat_code.esz, hat_code.len, hat_code.els, hne_code, hne1_code, hne2_code, onCur, dlI, dlT, curOf_lit, Enc.decL_map]
  refine Stop.mk fun H2 b2 k2 ps a1 s1 hw2 hs2 hb2 hat2 hpl hsh hl1 hu1 => ?_
  have hc2 := cur_at hs2
  have hxb : H2.b b_code = some k_code := hs2.1.2 _ _ (by simp [push_b, set_b, hr0_code, hr1_code, hnr2_code, hat_code.blk, hat_code.esz, hat_code.len, hat_code.els, hne_code, hne1_code, hne2_code, onCur, dlI, dlT, curOf_lit, Enc.decL_map]; done)
  have hn2 := hs2.1.1
  simp only [push_n, set_n] at hn2 hb2
  have hS : Sub H H2 := ⟨⟨by omega, fun j k hj => hs2.1.2 _ _ (by
    have hjn := (hwf j k hj).1
    have qj0 : (j = H.n) = False := eq_false (by omega)
    simp [push_b, set_b, qj0, hj]; done)⟩, by have := hs2.2; simpa only [push_I, set_I] using this⟩
  clear hs2
  have hbq := (hw2 _ _ hat2.blk).1
  have r0 : (b2 = H.n) = False := eq_false (by omega)
  have r1 : (H.n = b2) = False := eq_false (by omega)
  have r2 : (H.n = b_code) = False := eq_false (by omega)
  have r3 : (b_code = H.n) = False := eq_false (by omega)
  have hce : (curK b_code i_code code.length a1 s1).esz ≠ 1 := by simp
  have hon2 : ∀ H', SubX H.n H2 H' → eSi.decL H' ((k2.els.drop 0).take ps.length) = some ps := fun H' hs => decL_x hc2 hce hs hat2.els
  simp only [List.drop_zero] at hon2
  have x1 : SubX H.n H2 H2 := SubX.refl _ _
  have x2 : ∀ H' k, SubX H.n H2 H' → SubX H.n H2 (H'.set H.n k) := fun H' k hs => SubX.set hw2 (.inl rfl) hs k
  have x3 : ∀ H' k, H2.n ≤ H'.n → SubX H.n H2 H' → SubX H.n H2 (H'.push k) := fun H' k hn hs => SubX.push hw2 hn hs k
  have x4 : ∀ H', SubX H.n H2 H' → SubX H.n H2 H'.toRo := fun H' hs => hs.toRo
  have hk2l := hat2.len
  simp only [Nat.zero_add] at hk2l
  have hlA : 0 ≤ a1 ∧ a1 ≤ 800000000 := by omega
  have p0 := ne5_of (a := H.n) (b := H2.n) (by omega)
  have p1 := ne5_of (a := b_code) (b := H2.n) (by omega)
  have p2 := ne5_of (a := b2) (b := H2.n) (by omega)
  simp (config := {contextual := true, implicitDefEqProofs := false, maxSteps := 2000000}) [-Int.not_le, -Int.not_lt, argsF, spec_DrawCoversSeen_c, onCur, dlI, dlT, curOf_lit, hat_code.esz, hat_code.len, hat_code.els, hc2, hxb, hat2.blk, hat2.esz, hk2l, hon2, x1, x2, x3, x4, r0, r1, r2, r3, hlA, Enc.decL_map, p0, p1, p2]
  refine Stop.mk fun i a2 s2 hl2 hu2 => ?_
  simp (config := {contextual := true, implicitDefEqProofs := false, maxSteps := 2000000}) [-Int.not_le, -Int.not_lt, argsF, spec_DrawCoversSeen_c, onCur, dlI, dlT, curOf_lit, hat_code.esz, hat_code.len, hat_code.els, hc2, hxb, hat2.blk, hat2.esz, hk2l, hon2, x1, x2, x3, x4, r0, r1, r2, r3, hlA, Enc.decL_map, p0, p1, p2]
  exact Out.whole (by have := hS.1.1; simpa only [set_n] using this) (by simp [frOk, AV.okR, AV.ok1, AC.okR, AV.ren, AV.ren1, AC.ren, AFrame.get, pl1_old, *]; first | done | rfl | omega) fun hw => Stop.out h _ b2 k2 ps i hw (Sub.set hwf hS (Nat.le_refl _) _) ⟨by simp [push_b, set_b, kill_b, onCur, dlI, dlT, curOf_lit, hat_code.esz, hat_code.len, hat_code.els, hc2, hxb, hat2.blk, hat2.esz, hk2l, hon2, x1, x2, x3, x4, r0, r1, r2, r3, hlA, Enc.decL_map, p0, p1, p2]; done, hat2.esz, hat2.len, by rw [List.drop_zero]; exact hon2 _ (x2 _ _ x1)⟩ hpl hsh

set_option maxHeartbeats 4000000

def q_rBig : Con := fun args H K => match args with
  | [code_v] => eU.rd H (fun code => K (.c (.bool (decide (65536 < code.length)))) H) code_v
  | _ => False
@[simp ↓] theorem q_rBig_eq (code_v : AV) (H : AHeap) (K : AV → AHeap → Prop) : q_rBig [code_v] H K = (eU.rd H (fun code => K (.c (.bool (decide (65536 < code.length)))) H) code_v) := rfl

theorem laws_rBig_s : Sound Tryz.prog 4 q_rBig := by
  intro args H K h
  unfold q_rBig at h
  split at h
  rotate_left
  all_goals first | exact False.elim h | skip
  rename_i code_v
  have h1 := Enc.rd_at h
  clear h
  obtain ⟨b_code, i_code, k_code, code, rfl, hat_code, h⟩ := h1
  have hE := soundE_nil (P := Tryz.prog)
  refine acalls_fn laws_rBig_k hE ⟨by simp, fun hwf => ?_⟩
  have hb_code : b_code < H.n := (hwf b_code k_code hat_code.blk).1
  have hne_code : (b_code = H.n) = False := eq_false (by omega)
  have hne1_code : ∀ i, (b_code = H.n + i) = False := fun i => eq_false (by omega)
  have hne2_code := ne2_of (a := b_code) (b := H.n) (by omega)
  have hmx_code : code.length ≤ 9223372036854775807 := by have h1 := (hwf b_code k_code hat_code.blk).2.2; have h2 := hat_code.len; omega
  simp (config := {contextual := true, implicitDefEqProofs := false, maxSteps := 60000}) [-Int.not_le, -Int.not_lt, argsF, laws_rBig_c, hat_code.blk, hat_code.esz, hat_code.len, hat_code.els, hne_code, hne1_code, hne2_code]
  have e : decide ((65536 : Int) < (code.length : Int)) = decide (65536 < code.length) := by rw [decide_eq_decide]; omega
  first | ((refine Out.plain hwf ?_ rfl ?_; (repeat first | exact Sub.refl _ | refine Sub.push hwf ?_ _ | refine Sub.set hwf ?_ (by first | exact Nat.le_refl _ | omega | (simp only [push_n, set_n, kill_n]; omega)) _ | refine Sub.kill hwf ?_ (by first | exact Nat.le_refl _ | omega | (simp only [push_n, set_n, kill_n]; omega)))); exact h) | (rw [e]; (refine Out.plain hwf ?_ rfl ?_; (repeat first | exact Sub.refl _ | refine Sub.push hwf ?_ _ | refine Sub.set hwf ?_ (by first | exact Nat.le_refl _ | omega | (simp only [push_n, set_n, kill_n]; omega)) _ | refine Sub.kill hwf ?_ (by first | exact Nat.le_refl _ | omega | (simp only [push_n, set_n, kill_n]; omega)))); exact h)

def q_rInts : Con := fun args H K => match args with
  | [ps_v, rs_v] => eI.rd H (fun ps => eI.rd H (fun rs => K (.c (.bool (decide (ps = rs)))) H) rs_v) ps_v
  | _ => False
@[simp ↓] theorem q_rInts_eq (ps_v : AV) (rs_v : AV) (H : AHeap) (K : AV → AHeap → Prop) : q_rInts [ps_v, rs_v] H K = (eI.rd H (fun ps => eI.rd H (fun rs => K (.c (.bool (decide (ps = rs)))) H) rs_v) ps_v) := rfl

theorem laws_rInts_s : Sound Tryz.prog 16 q_rInts := by
  intro args H K h
  unfold q_rInts at h
  split at h
  rotate_left
  all_goals first | exact False.elim h | skip
  rename_i ps_v rs_v
  have h1 := Enc.rd_at h
  clear h
  obtain ⟨b_ps, i_ps, k_ps, ps, rfl, hat_ps, h⟩ := h1
  have h1 := Enc.rd_at h
  clear h
  obtain ⟨b_rs, i_rs, k_rs, rs, rfl, hat_rs, h⟩ := h1
  have hE := soundE_nil (P := Tryz.prog)
  refine acalls_fn laws_rInts_k hE ⟨by simp, fun hwf => ?_⟩
  have hb_ps : b_ps < H.n := (hwf b_ps k_ps hat_ps.blk).1
  have hne_ps : (b_ps = H.n) = False := eq_false (by omega)
  have hne1_ps : ∀ i, (b_ps = H.n + i) = False := fun i => eq_false (by omega)
  have hne2_ps := ne2_of (a := b_ps) (b := H.n) (by omega)
  have hmx_ps : ps.length ≤ 9223372036854775807 := by have h1 := (hwf b_ps k_ps hat_ps.blk).2.2; have h2 := hat_ps.len; omega
  have hb_rs : b_rs < H.n := (hwf b_rs k_rs hat_rs.blk).1
  have hne_rs : (b_rs = H.n) = False := eq_false (by omega)
  have hne1_rs : ∀ i, (b_rs = H.n + i) = False := fun i => eq_false (by omega)
  have hne2_rs := ne2_of (a := b_rs) (b := H.n) (by omega)
  have hmx_rs : rs.length ≤ 9223372036854775807 := by have h1 := (hwf b_rs k_rs hat_rs.blk).2.2; have h2 := hat_rs.len; omega
  by_cases hlen : ps.length = rs.length
  rotate_left
  · have hne : ¬ (ps.length : Int) = (rs.length : Int) := by omega
    rw [decide_eq_false (fun e => hlen (by rw [e]))] at h
    simp (config := {contextual := true, implicitDefEqProofs := false, maxSteps := 2000000}) [-Int.not_le, -Int.not_lt, argsF, laws_rInts_c, hat_ps.blk, hat_ps.esz, hat_ps.len, hat_ps.els, hne_ps, hne1_ps, hne2_ps, hat_rs.blk, hat_rs.esz, hat_rs.len, hat_rs.els, hne_rs, hne1_rs, hne2_rs, hlen, hne]
    (refine Out.plain hwf ?_ rfl ?_; (repeat first | exact Sub.refl _ | refine Sub.push hwf ?_ _ | refine Sub.set hwf ?_ (by first | exact Nat.le_refl _ | omega | (simp only [push_n, set_n, kill_n]; omega)) _ | refine Sub.kill hwf ?_ (by first | exact Nat.le_refl _ | omega | (simp only [push_n, set_n, kill_n]; omega)))); exact h
  simp (config := {contextual := true, implicitDefEqProofs := false, maxSteps := 2000000}) [-Int.not_le, -Int.not_lt, argsF, laws_rInts_c, hat_ps.blk, hat_ps.esz, hat_ps.len, hat_ps.els, hne_ps, hne1_ps, hne2_ps, hat_rs.blk, hat_rs.esz, hat_rs.len, hat_rs.els, hne_rs, hne1_rs, hne2_rs, hlen]
  refine aloop_list ps (fun j _ => [(0, .c (.sl b_ps i_ps ps.length)), (1, .c (.sl b_rs i_rs rs.length)), (5, .c (.int .i64 (j)))]) (fun j _ => H) (fun j l _ => K (.c (.bool (decide (l = rs.drop j)))) H) hE _ (()) (by simpa using h) (Weak.since (H := H) (Nat.le_refl _) hwf (.refl _) (by simp [frOk, AV.okR, AV.ok1, AC.okR, AV.ren, AV.ren1, AC.ren, AFrame.get, pl1_old, *]; first | done | rfl | omega)) (fun j _ hlt hi => ?_) fun _ hi => ?_
  ·
    have e1 := hat_ps.get hlt
    have hj1 := idx_lt hlt
    have w1 : IntKind.i64.wrap ((j : Int) + 1) = (j : Int) + 1 := wrap_id (by omega) (by omega)
    have hr : j < rs.length := by omega
    have hr1 := idx_lt hr
    have e2 := hat_rs.get hr
    rw [List.drop_eq_getElem_cons hr] at hi
    simp (config := {contextual := true, implicitDefEqProofs := false, maxSteps := 60000}) [-Int.not_le, -Int.not_lt, argsF, laws_rInts_l0, hat_rs.blk, hat_rs.esz, hat_rs.len, hat_rs.els, hne_rs, hne1_rs, hne2_rs, hat_ps.blk, hat_ps.esz, hat_ps.len, hat_ps.els, hne_ps, hne1_ps, hne2_ps, e1, hj1, w1, hr, hr1, e2]
    simp only [List.cons.injEq] at hi
    refine ite_i (fun g => ?_) (fun g => ?_)
    · simp only [g, true_and] at hi
      exact ⟨(), hi, .drop hwf (by (repeat first | exact Sub.refl _ | refine Sub.push hwf ?_ _ | refine Sub.set hwf ?_ (by first | exact Nat.le_refl _ | omega | (simp only [push_n, set_n, kill_n]; omega)) _ | refine Sub.kill hwf ?_ (by first | exact Nat.le_refl _ | omega | (simp only [push_n, set_n, kill_n]; omega)))) (by simp [frOk, AV.okR, AV.ok1, AC.okR, AV.ren, AV.ren1, AC.ren, AFrame.get, pl1_old, *]; first | done | rfl | omega)⟩
    · simp only [g, false_and, decide_false] at hi
      (refine Out.plain hwf ?_ rfl ?_; (repeat first | exact Sub.refl _ | refine Sub.push hwf ?_ _ | refine Sub.set hwf ?_ (by first | exact Nat.le_refl _ | omega | (simp only [push_n, set_n, kill_n]; omega)) _ | refine Sub.kill hwf ?_ (by first | exact Nat.le_refl _ | omega | (simp only [push_n, set_n, kill_n]; omega)))); exact hi
  ·
    simp (config := {contextual := true, implicitDefEqProofs := false, maxSteps := 60000}) [-Int.not_le, -Int.not_lt, argsF, laws_rInts_l0, hat_rs.blk, hat_rs.esz, hat_rs.len, hat_rs.els, hne_rs, hne1_rs, hne2_rs, hat_ps.blk, hat_ps.esz, hat_ps.len, hat_ps.els, hne_ps, hne1_ps, hne2_ps, hlen]
    rw [show ps.length = rs.length by omega, List.drop_length] at hi
    (refine Out.plain hwf ?_ rfl ?_; (repeat first | exact Sub.refl _ | refine Sub.push hwf ?_ _ | refine Sub.set hwf ?_ (by first | exact Nat.le_refl _ | omega | (simp only [push_n, set_n, kill_n]; omega)) _ | refine Sub.kill hwf ?_ (by first | exact Nat.le_refl _ | omega | (simp only [push_n, set_n, kill_n]; omega)))); simpa using hi

def q_rHas : Con := fun args H K => match args with
  | [ps_v, .c (.int .i64 n)] => eI.rd H (fun ps => K (.c (.bool (ps.any fun x => decide (x = n)))) H) ps_v
  | _ => False
@[simp ↓] theorem q_rHas_eq (ps_v : AV) (n : Int) (H : AHeap) (K : AV → AHeap → Prop) : q_rHas [ps_v, .c (.int .i64 n)] H K = (eI.rd H (fun ps => K (.c (.bool (ps.any fun x => decide (x = n)))) H) ps_v) := rfl

theorem laws_rHas_s : Sound Tryz.prog 19 q_rHas := by
  intro args H K h
  unfold q_rHas at h
  split at h
  rotate_left
  all_goals first | exact False.elim h | skip
  rename_i ps_v n
  have h1 := Enc.rd_at h
  clear h
  obtain ⟨b_ps, i_ps, k_ps, ps, rfl, hat_ps, h⟩ := h1
  have hE := soundE_nil (P := Tryz.prog)
  refine acalls_fn laws_rHas_k hE ⟨by simp, fun hwf => ?_⟩
  have hb_ps : b_ps < H.n := (hwf b_ps k_ps hat_ps.blk).1
  have hne_ps : (b_ps = H.n) = False := eq_false (by omega)
  have hne1_ps : ∀ i, (b_ps = H.n + i) = False := fun i => eq_false (by omega)
  have hne2_ps := ne2_of (a := b_ps) (b := H.n) (by omega)
  have hmx_ps : ps.length ≤ 9223372036854775807 := by have h1 := (hwf b_ps k_ps hat_ps.blk).2.2; have h2 := hat_ps.len; omega
  simp (config := {contextual := true, implicitDefEqProofs := false, maxSteps := 60000}) [-Int.not_le, -Int.not_lt, argsF, laws_rHas_c, hat_ps.blk, hat_ps.esz, hat_ps.len, hat_ps.els, hne_ps, hne1_ps, hne2_ps]
  refine aloop_list ps (fun j _ => [(0, .c (.sl b_ps i_ps ps.length)), (1, .c (.int .i64 (n))), (5, .c (.int .i64 (j)))]) (fun j _ => H) (fun j l _ => K (.c (.bool (l.any fun x => decide (x = n)))) H) hE _ (()) (h) (.same hwf (by simp [frOk, AV.okR, AV.ok1, AC.okR, AV.ren, AV.ren1, AC.ren, AFrame.get, pl1_old, *]; first | done | rfl | omega)) (fun j _ hlt hi => ?_) fun _ hi => ?_
  ·
    have e1 := hat_ps.get hlt
    have hj1 := idx_lt hlt
    have w1 : IntKind.i64.wrap ((j : Int) + 1) = (j : Int) + 1 := wrap_id (by omega) (by omega)
    simp (config := {contextual := true, implicitDefEqProofs := false, maxSteps := 60000}) [-Int.not_le, -Int.not_lt, argsF, laws_rHas_l0, hat_ps.blk, hat_ps.esz, hat_ps.len, hat_ps.els, hne_ps, hne1_ps, hne2_ps, e1, hj1, w1]
    rw [List.any_cons] at hi
    refine ite_i (fun g => ?_) (fun g => ?_)
    · rw [decide_eq_true g, Bool.true_or] at hi
      (refine Out.plain hwf ?_ rfl ?_; (repeat first | exact Sub.refl _ | refine Sub.push hwf ?_ _ | refine Sub.set hwf ?_ (by first | exact Nat.le_refl _ | omega | (simp only [push_n, set_n, kill_n]; omega)) _ | refine Sub.kill hwf ?_ (by first | exact Nat.le_refl _ | omega | (simp only [push_n, set_n, kill_n]; omega)))); exact hi
    · rw [decide_eq_false g, Bool.false_or] at hi
      exact ⟨(), hi, .drop hwf (by (repeat first | exact Sub.refl _ | refine Sub.push hwf ?_ _ | refine Sub.set hwf ?_ (by first | exact Nat.le_refl _ | omega | (simp only [push_n, set_n, kill_n]; omega)) _ | refine Sub.kill hwf ?_ (by first | exact Nat.le_refl _ | omega | (simp only [push_n, set_n, kill_n]; omega)))) (by simp [frOk, AV.okR, AV.ok1, AC.okR, AV.ren, AV.ren1, AC.ren, AFrame.get, pl1_old, *]; first | done | rfl | omega)⟩
  ·
    simp (config := {contextual := true, implicitDefEqProofs := false, maxSteps := 60000}) [-Int.not_le, -Int.not_lt, argsF, laws_rHas_l0, hat_ps.blk, hat_ps.esz, hat_ps.len, hat_ps.els, hne_ps, hne1_ps, hne2_ps]
    simp only [List.any_nil] at hi
    (refine Out.plain hwf ?_ rfl ?_; (repeat first | exact Sub.refl _ | refine Sub.push hwf ?_ _ | refine Sub.set hwf ?_ (by first | exact Nat.le_refl _ | omega | (simp only [push_n, set_n, kill_n]; omega)) _ | refine Sub.kill hwf ?_ (by first | exact Nat.le_refl _ | omega | (simp only [push_n, set_n, kill_n]; omega)))); exact hi

theorem laws_rTable_s : Sound Tryz.prog 12 q_eqII := by
  intro args H K h
  unfold q_eqII at h
  split at h
  rotate_left
  all_goals first | exact False.elim h | skip
  rename_i ps_v rs_v
  have h1 := EncH.rd_at h
  clear h
  obtain ⟨b_ps, i_ps, k_ps, ps, rfl, hat_ps, h⟩ := h1
  have h1 := EncH.rd_at h
  clear h
  obtain ⟨b_rs, i_rs, k_rs, rs, rfl, hat_rs, h⟩ := h1
  have hE := soundE_cons laws_rInts_s (soundE_nil (P := Tryz.prog))
  refine acalls_fn laws_rTable_k hE ⟨by simp, fun hwf => ?_⟩
  obtain ⟨hsr, hsp, hst, hss, hsk⟩ := hs_of hwf
  have hon_ps := hat_ps.on
  have hon_rs := hat_rs.on
  have hb_ps : b_ps < H.n := (hwf b_ps k_ps hat_ps.blk).1
  have hne_ps : (b_ps = H.n) = False := eq_false (by omega)
  have hne1_ps : ∀ i, (b_ps = H.n + i) = False := fun i => eq_false (by omega)
  have hne2_ps := ne2_of (a := b_ps) (b := H.n) (by omega)
  have hmx_ps : ps.length ≤ 9223372036854775807 := by have h1 := (hwf b_ps k_ps hat_ps.blk).2.2; have h2 := hat_ps.len; omega
  have hb_rs : b_rs < H.n := (hwf b_rs k_rs hat_rs.blk).1
  have hne_rs : (b_rs = H.n) = False := eq_false (by omega)
  have hne1_rs : ∀ i, (b_rs = H.n + i) = False := fun i => eq_false (by omega)
  have hne2_rs := ne2_of (a := b_rs) (b := H.n) (by omega)
  have hmx_rs : rs.length ≤ 9223372036854775807 := by have h1 := (hwf b_rs k_rs hat_rs.blk).2.2; have h2 := hat_rs.len; omega
  simp (config := {contextual := true, implicitDefEqProofs := false, maxSteps := 60000}) [-Int.not_le, -Int.not_lt, argsF, laws_rTable_c, hat_ps.blk, hat_ps.esz, hat_ps.len, hon_ps, hne_ps, hne1_ps, hne2_ps, hat_rs.blk, hat_rs.esz, hat_rs.len, hon_rs, hne_rs, hne1_rs, hne2_rs, hsr, hsp, hst, hss, hsk]
  refine ite_i (fun hlen => ?_) (fun hlen => ?_)
  · refine aloop_list ps (fun j _ => [(0, .c (.sl b_ps i_ps ps.length)), (1, .c (.sl b_rs i_rs rs.length)), (5, .c (.int .i64 ((j : Int))))]) (fun j _ => H) (fun j l _ => K (.c (.bool (decide (l = rs.drop j)))) H) hE _ () (by simpa using h) (.same hwf (by simp [frOk, AV.okR, AV.ok1, AC.okR, AV.ren, AV.ren1, AC.ren, AFrame.get, pl1_old, *]; first | done | rfl | omega)) (fun j _ hlt hi => ?_) fun _ hi => ?_
    · have hr : j < rs.length := by omega
      have hr1 := idx_lt hr
      have hj1 := idx_lt hlt
      have w1 : IntKind.i64.wrap ((j : Int) + 1) = (j : Int) + 1 := wrap_id (by omega) (by omega)
      rw [List.drop_eq_getElem_cons hr] at hi
      obtain ⟨ex_x, e_x, hd_x⟩ := hat_ps.get hlt
      obtain ⟨b_x, i_x, k_x, rfl, hat_x, htx_x⟩ := eII_at3 hd_x
      have hb_x : b_x < H.n := (hwf b_x k_x hat_x.blk).1
      have hne_x : (b_x = H.n) = False := eq_false (by omega)
      have hne1_x : ∀ i, (b_x = H.n + i) = False := fun i => eq_false (by omega)
      have hne2_x := ne2_of (a := b_x) (b := H.n) (by omega)
      obtain ⟨ex_y, e_y, hd_y⟩ := hat_rs.get hr
      obtain ⟨b_y, i_y, k_y, rfl, hat_y, htx_y⟩ := eII_at3 hd_y
      have hb_y : b_y < H.n := (hwf b_y k_y hat_y.blk).1
      have hne_y : (b_y = H.n) = False := eq_false (by omega)
      have hne1_y : ∀ i, (b_y = H.n + i) = False := fun i => eq_false (by omega)
      have hne2_y := ne2_of (a := b_y) (b := H.n) (by omega)
      simp (config := {contextual := true, implicitDefEqProofs := false, maxSteps := 2000000}) [-Int.not_le, -Int.not_lt, argsF, laws_rTable_l0, hat_ps.blk, hat_ps.esz, hat_ps.len, hon_ps, hne_ps, hne1_ps, hne2_ps, hat_rs.blk, hat_rs.esz, hat_rs.len, hon_rs, hne_rs, hne1_rs, hne2_rs, hsr, hsp, hst, hss, hsk, hj1, hr, hr1, w1, hlt, e_x, e_y, hat_x.blk, hat_x.esz, hat_x.len, hat_x.els, hne_x, hne1_x, hne2_x, hat_y.blk, hat_y.esz, hat_y.len, hat_y.els, hne_y, hne1_y, hne2_y]
      simp only [List.cons.injEq] at hi
      refine ite_i (fun hc => ?_) (fun hc => ?_)
      · simp only [hc, true_and] at hi
        exact ⟨(), hi, .drop hwf (by (repeat first | exact Sub.refl _ | refine Sub.push hwf ?_ _ | refine Sub.set hwf ?_ (by first | exact Nat.le_refl _ | omega | (simp only [push_n, set_n, kill_n]; omega)) _ | refine Sub.kill hwf ?_ (by first | exact Nat.le_refl _ | omega | (simp only [push_n, set_n, kill_n]; omega)))) (by simp [frOk, AV.okR, AV.ok1, AC.okR, AV.ren, AV.ren1, AC.ren, AFrame.get, pl1_old, *]; first | done | rfl | omega)⟩
      · simp only [hc, false_and, decide_false] at hi
        (refine Out.plain hwf ?_ rfl ?_; (repeat first | exact Sub.refl _ | refine Sub.push hwf ?_ _ | refine Sub.set hwf ?_ (by first | exact Nat.le_refl _ | omega | (simp only [push_n, set_n, kill_n]; omega)) _ | refine Sub.kill hwf ?_ (by first | exact Nat.le_refl _ | omega | (simp only [push_n, set_n, kill_n]; omega)))); exact hi
    · simp (config := {contextual := true, implicitDefEqProofs := false, maxSteps := 2000000}) [-Int.not_le, -Int.not_lt, argsF, laws_rTable_l0]
      rw [show ps.length = rs.length by omega, List.drop_length] at hi
      (refine Out.plain hwf ?_ rfl ?_; (repeat first | exact Sub.refl _ | refine Sub.push hwf ?_ _ | refine Sub.set hwf ?_ (by first | exact Nat.le_refl _ | omega | (simp only [push_n, set_n, kill_n]; omega)) _ | refine Sub.kill hwf ?_ (by first | exact Nat.le_refl _ | omega | (simp only [push_n, set_n, kill_n]; omega)))); simpa using hi
  · (refine Out.plain hwf ?_ rfl ?_; (repeat first | exact Sub.refl _ | refine Sub.push hwf ?_ _ | refine Sub.set hwf ?_ (by first | exact Nat.le_refl _ | omega | (simp only [push_n, set_n, kill_n]; omega)) _ | refine Sub.kill hwf ?_ (by first | exact Nat.le_refl _ | omega | (simp only [push_n, set_n, kill_n]; omega))))
    rwa [decide_eq_false (fun e => hlen (by rw [e]))] at h

end Go.Proofs.YtafenginfojcmaaGreatDoor
set_option maxRecDepth 8000
set_option linter.unusedSimpArgs false
set_option linter.unusedVariables false
namespace Go.Proofs.YtafenginfojcmaaGreatDoor
open Go Go.RowKit

set_option maxHeartbeats 4000000
theorem SubX.of_set {c : Nat} {H H' : AHeap} {k : ABlk} (h : Sub (H.set c k) H') : SubX c H H' := ⟨fun b k0 hb hk => ⟨k0, h.1.2 b k0 (by rw [set_b, if_neg hb]; exact hk), rfl, rfl⟩⟩

def q_DAr : Con := fun args H K => match args with
  | [code_v] => eU.rd H (fun code => code.length ≤ 65536 ∧ Stop (∀ (H' : AHeap) (b : Nat) (k : ABlk) (ps : List Si), H'.WF → Sub H H' → eSi.At H' b 0 k ps → ps.length ≤ 12 → (∀ p ∈ ps, shS p) → K (.c (.sl (b) (0) (ps.length))) H') ()) code_v
  | _ => False
@[simp ↓] theorem q_DAr_eq (code_v : AV) (H : AHeap) (K : AV → AHeap → Prop) : q_DAr [code_v] H K = (eU.rd H (fun code => code.length ≤ 65536 ∧ Stop (∀ (H' : AHeap) (b : Nat) (k : ABlk) (ps : List Si), H'.WF → Sub H H' → eSi.At H' b 0 k ps → ps.length ≤ 12 → (∀ p ∈ ps, shS p) → K (.c (.sl (b) (0) (ps.length))) H') ()) code_v) := rfl

def q_DTr : Con := fun args H K => match args with
  | [code_v] => eU.rd H (fun code => code.length ≤ 65536 ∧ Stop (∀ (H' : AHeap) (b : Nat) (k : ABlk) (ps : List Si) (i j : Int), H'.WF → Sub H H' → eSi.At H' b 0 k ps → ps.length ≤ 12 → (∀ p ∈ ps, shS p) → K (.tup [.c (.sl (b) (0) (ps.length)), .c (.int .i64 (i)), .c (.int .i64 (j))]) H') ()) code_v
  | _ => False
@[simp ↓] theorem q_DTr_eq (code_v : AV) (H : AHeap) (K : AV → AHeap → Prop) : q_DTr [code_v] H K = (eU.rd H (fun code => code.length ≤ 65536 ∧ Stop (∀ (H' : AHeap) (b : Nat) (k : ABlk) (ps : List Si) (i j : Int), H'.WF → Sub H H' → eSi.At H' b 0 k ps → ps.length ≤ 12 → (∀ p ∈ ps, shS p) → K (.tup [.c (.sl (b) (0) (ps.length)), .c (.int .i64 (i)), .c (.int .i64 (j))]) H') ()) code_v) := rfl

def q_DAd : Con := fun args H K => match args with
  | [code_v] => eU.rd H (fun code => code.length ≤ 65536 ∧ Stop (∀ (H' : AHeap) (b : Nat) (k : ABlk) (ps : List Si) (bt : Nat) (kt : ABlk) (p : Si), H'.WF → Sub H H' → eSi.At H' b 0 k ps → ps.length ≤ 12 → (∀ p ∈ ps, shS p) → eI.At H' bt 0 kt p.traits → p.traits.length ≤ 12 → p.town.length ≤ 100 → K (.tup [.c (.sl (b) (0) (ps.length)), .c (.int .i64 (p.year)), .c (.str (p.town)), .c (.sl (bt) (0) (p.traits.length))]) H') ()) code_v
  | _ => False
@[simp ↓] theorem q_DAd_eq (code_v : AV) (H : AHeap) (K : AV → AHeap → Prop) : q_DAd [code_v] H K = (eU.rd H (fun code => code.length ≤ 65536 ∧ Stop (∀ (H' : AHeap) (b : Nat) (k : ABlk) (ps : List Si) (bt : Nat) (kt : ABlk) (p : Si), H'.WF → Sub H H' → eSi.At H' b 0 k ps → ps.length ≤ 12 → (∀ p ∈ ps, shS p) → eI.At H' bt 0 kt p.traits → p.traits.length ≤ 12 → p.town.length ≤ 100 → K (.tup [.c (.sl (b) (0) (ps.length)), .c (.int .i64 (p.year)), .c (.str (p.town)), .c (.sl (bt) (0) (p.traits.length))]) H') ()) code_v) := rfl

def q_DSt : Con := fun args H K => match args with
  | [code_v] => eU.rd H (fun code => code.length ≤ 65536 ∧ Stop (∀ (H' : AHeap) (b : Nat) (k : ABlk) (p : Si), H'.WF → Sub H H' → eI.At H' b 0 k p.traits → p.traits.length ≤ 12 → p.town.length ≤ 100 → K (.agg (siCells b p)) H') ()) code_v
  | _ => False
@[simp ↓] theorem q_DSt_eq (code_v : AV) (H : AHeap) (K : AV → AHeap → Prop) : q_DSt [code_v] H K = (eU.rd H (fun code => code.length ≤ 65536 ∧ Stop (∀ (H' : AHeap) (b : Nat) (k : ABlk) (p : Si), H'.WF → Sub H H' → eI.At H' b 0 k p.traits → p.traits.length ≤ 12 → p.town.length ≤ 100 → K (.agg (siCells b p)) H') ()) code_v) := rfl

theorem spec_DrawAreSightings_s : Sound Tryz.prog 27 q_DAr := by
  intro args H K h
  unfold q_DAr at h
  split at h
  rotate_left
  all_goals first | exact False.elim h | skip
  rename_i code_v
  have h1 := Enc.rd_at h
  clear h
  obtain ⟨b_code, i_code, k_code, code, rfl, hat_code, h⟩ := h1
  have hE := soundE_cons spec_l1Cur__sightings13_s (soundE_nil (P := Tryz.prog))
  refine acalls_fn spec_DrawAreSightings_k hE ⟨by simp, fun hwf => ?_⟩
  have hb_code : b_code < H.n := (hwf b_code k_code hat_code.blk).1
  have hne_code : (b_code = H.n) = False := eq_false (by omega)
  have hne1_code : ∀ i, (b_code = H.n + i) = False := fun i => eq_false (by omega)
  have hne2_code := ne2_of (a := b_code) (b := H.n) (by omega)
  have hmx_code : code.length ≤ 9223372036854775807 := by have h1 := (hwf b_code k_code hat_code.blk).2.2; have h2 := hat_code.len; omega
  obtain ⟨hcl, h⟩ := h
  have hr0_code : (H.n = b_code) = False := eq_false (by omega)
  have hr1_code : ∀ i, (H.n + i = b_code) = False := fun i => eq_false (by omega)
  have hnr2_code := nr2_of (a := b_code) (b := H.n) (by omega)
  simp (config := {contextual := true, implicitDefEqProofs := false, maxSteps := 2000000}) [-Int.not_le, -Int.not_lt, argsF, spec_DrawAreSightings_c, hr0_code, hr1_code, hnr2_code, hat_code.blk, hat_code.esz, hat_code.len, hat_code.els, hne_code, hne1_code, hne2_code, onCur, dlI, dlT, curOf_lit, Enc.decL_map]
  refine Stop.mk fun H2 b2 k2 ps a1 s1 hw2 hs2 hb2 hat2 hpl hsh hl1 hu1 => ?_
  have hc2 := cur_at hs2
  have hxb : H2.b b_code = some k_code := hs2.1.2 _ _ (by simp [push_b, set_b, hr0_code, hr1_code, hnr2_code, hat_code.blk, hat_code.esz, hat_code.len, hat_code.els, hne_code, hne1_code, hne2_code, onCur, dlI, dlT, curOf_lit, Enc.decL_map]; done)
  have hn2 := hs2.1.1
  simp only [push_n, set_n] at hn2 hb2
  have hS : Sub H H2 := ⟨⟨by omega, fun j k hj => hs2.1.2 _ _ (by
    have hjn := (hwf j k hj).1
    have qj0 : (j = H.n) = False := eq_false (by omega)
    simp [push_b, set_b, qj0, hj]; done)⟩, by have := hs2.2; simpa only [push_I, set_I] using this⟩
  clear hs2
  have hbq := (hw2 _ _ hat2.blk).1
  have r0 : (b2 = H.n) = False := eq_false (by omega)
  have r1 : (H.n = b2) = False := eq_false (by omega)
  have r2 : (H.n = b_code) = False := eq_false (by omega)
  have r3 : (b_code = H.n) = False := eq_false (by omega)
  have hce : (curK b_code i_code code.length a1 s1).esz ≠ 1 := by simp
  have hon2 : ∀ H', SubX H.n H2 H' → eSi.decL H' ((k2.els.drop 0).take ps.length) = some ps := fun H' hs => decL_x hc2 hce hs hat2.els
  simp only [List.drop_zero] at hon2
  have x1 : SubX H.n H2 H2 := SubX.refl _ _
  have x2 : ∀ H' k, SubX H.n H2 H' → SubX H.n H2 (H'.set H.n k) := fun H' k hs => SubX.set hw2 (.inl rfl) hs k
  have x3 : ∀ H' k, H2.n ≤ H'.n → SubX H.n H2 H' → SubX H.n H2 (H'.push k) := fun H' k hn hs => SubX.push hw2 hn hs k
  have x4 : ∀ H', SubX H.n H2 H' → SubX H.n H2 H'.toRo := fun H' hs => hs.toRo
  have hk2l := hat2.len
  simp only [Nat.zero_add] at hk2l
  have hlA : 0 ≤ a1 ∧ a1 ≤ 800000000 := by omega
  have p0 := ne5_of (a := H.n) (b := H2.n) (by omega)
  have p1 := ne5_of (a := b_code) (b := H2.n) (by omega)
  have p2 := ne5_of (a := b2) (b := H2.n) (by omega)
  simp (config := {contextual := true, implicitDefEqProofs := false, maxSteps := 2000000}) [-Int.not_le, -Int.not_lt, argsF, spec_DrawAreSightings_c]
  exact Out.whole hS.1.1 (by simp [frOk, AV.okR, AV.ok1, AC.okR, AV.ren, AV.ren1, AC.ren, AFrame.get, pl1_old, *]; first | done | rfl | omega) fun hw => Stop.out h H2 b2 k2 ps hw hS hat2 hpl hsh

theorem spec_DrawStrongestPair_s : Sound Tryz.prog 5 q_DAr := by
  intro args H K h
  unfold q_DAr at h
  split at h
  rotate_left
  all_goals first | exact False.elim h | skip
  rename_i code_v
  have h1 := Enc.rd_at h
  clear h
  obtain ⟨b_code, i_code, k_code, code, rfl, hat_code, h⟩ := h1
  have hE := soundE_cons spec_DrawAreSightings_s (soundE_nil (P := Tryz.prog))
  refine acalls_fn spec_DrawStrongestPair_k hE ⟨by simp, fun hwf => ?_⟩
  have hb_code : b_code < H.n := (hwf b_code k_code hat_code.blk).1
  have hne_code : (b_code = H.n) = False := eq_false (by omega)
  have hne1_code : ∀ i, (b_code = H.n + i) = False := fun i => eq_false (by omega)
  have hne2_code := ne2_of (a := b_code) (b := H.n) (by omega)
  have hmx_code : code.length ≤ 9223372036854775807 := by have h1 := (hwf b_code k_code hat_code.blk).2.2; have h2 := hat_code.len; omega
  obtain ⟨hcl, h⟩ := h
  simp (config := {contextual := true, implicitDefEqProofs := false, maxSteps := 2000000}) [-Int.not_le, -Int.not_lt, argsF, spec_DrawStrongestPair_c, hat_code.blk, hat_code.esz, hat_code.len, hat_code.els, hne_code, hne1_code, hne2_code, Enc.decL_map, hcl]
  refine Stop.mk fun H2 b2 k2 ps hw2 hS hat2 hpl hsh => ?_
  have hb2 := (hw2 _ _ hat2.blk).1
  simp (config := {contextual := true, implicitDefEqProofs := false, maxSteps := 2000000}) [-Int.not_le, -Int.not_lt, argsF, spec_DrawStrongestPair_c]
  exact Out.whole hS.1.1 (by simp [frOk, AV.okR, AV.ok1, AC.okR, AV.ren, AV.ren1, AC.ren, AFrame.get, pl1_old, *]; first | done | rfl | omega) fun hw => Stop.out h H2 b2 k2 ps hw hS hat2 hpl hsh

theorem spec_DrawDoubtfulPairs_s : Sound Tryz.prog 9 q_DCv := by
  intro args H K h
  unfold q_DCv at h
  split at h
  rotate_left
  all_goals first | exact False.elim h | skip
  rename_i code_v
  have h1 := Enc.rd_at h
  clear h
  obtain ⟨b_code, i_code, k_code, code, rfl, hat_code, h⟩ := h1
  have hE := soundE_cons spec_DrawCoversSeen_s (soundE_nil (P := Tryz.prog))
  refine acalls_fn spec_DrawDoubtfulPairs_k hE ⟨by simp, fun hwf => ?_⟩
  have hb_code : b_code < H.n := (hwf b_code k_code hat_code.blk).1
  have hne_code : (b_code = H.n) = False := eq_false (by omega)
  have hne1_code : ∀ i, (b_code = H.n + i) = False := fun i => eq_false (by omega)
  have hne2_code := ne2_of (a := b_code) (b := H.n) (by omega)
  have hmx_code : code.length ≤ 9223372036854775807 := by have h1 := (hwf b_code k_code hat_code.blk).2.2; have h2 := hat_code.len; omega
  obtain ⟨hcl, h⟩ := h
  simp (config := {contextual := true, implicitDefEqProofs := false, maxSteps := 2000000}) [-Int.not_le, -Int.not_lt, argsF, spec_DrawDoubtfulPairs_c, hat_code.blk, hat_code.esz, hat_code.len, hat_code.els, hne_code, hne1_code, hne2_code, Enc.decL_map, hcl]
  refine Stop.mk fun H2 b2 k2 ps i hw2 hS hat2 hpl hsh => ?_
  have hb2 := (hw2 _ _ hat2.blk).1
  simp (config := {contextual := true, implicitDefEqProofs := false, maxSteps := 2000000}) [-Int.not_le, -Int.not_lt, argsF, spec_DrawDoubtfulPairs_c]
  exact Out.whole hS.1.1 (by simp [frOk, AV.okR, AV.ok1, AC.okR, AV.ren, AV.ren1, AC.ren, AFrame.get, pl1_old, *]; first | done | rfl | omega) fun hw => Stop.out h H2 b2 k2 ps i hw hS hat2 hpl hsh

theorem spec_DrawTraitsSeen_s : Sound Tryz.prog 13 q_DTr := by
  intro args H K h
  unfold q_DTr at h
  split at h
  rotate_left
  all_goals first | exact False.elim h | skip
  rename_i code_v
  have h1 := Enc.rd_at h
  clear h
  obtain ⟨b_code, i_code, k_code, code, rfl, hat_code, h⟩ := h1
  have hE := soundE_cons spec_l1Cur__sightings13_s (soundE_cons spec_l1Cur__limit13_s (soundE_cons spec_l1Cur__sightingId_s (soundE_nil (P := Tryz.prog))))
  refine acalls_fn spec_DrawTraitsSeen_k hE ⟨by simp, fun hwf => ?_⟩
  have hb_code : b_code < H.n := (hwf b_code k_code hat_code.blk).1
  have hne_code : (b_code = H.n) = False := eq_false (by omega)
  have hne1_code : ∀ i, (b_code = H.n + i) = False := fun i => eq_false (by omega)
  have hne2_code := ne2_of (a := b_code) (b := H.n) (by omega)
  have hmx_code : code.length ≤ 9223372036854775807 := by have h1 := (hwf b_code k_code hat_code.blk).2.2; have h2 := hat_code.len; omega
  obtain ⟨hcl, h⟩ := h
  have hr0_code : (H.n = b_code) = False := eq_false (by omega)
  have hr1_code : ∀ i, (H.n + i = b_code) = False := fun i => eq_false (by omega)
  have hnr2_code := nr2_of (a := b_code) (b := H.n) (by omega)
  simp (config := {contextual := true, implicitDefEqProofs := false, maxSteps := 2000000}) [-Int.not_le, -Int.not_lt, argsF, spec_DrawTraitsSeen_c, hr0_code, hr1_code, hnr2_code, hat_code.blk, hat_code.esz, hat_code.len, hat_code.els, hne_code, hne1_code, hne2_code, onCur, dlI, dlT, curOf_lit, Enc.decL_map]
  refine Stop.mk fun H2 b2 k2 ps a1 s1 hw2 hs2 hb2 hat2 hpl hsh hl1 hu1 => ?_
  have hc2 := cur_at hs2
  have hxb : H2.b b_code = some k_code := hs2.1.2 _ _ (by simp [push_b, set_b, hr0_code, hr1_code, hnr2_code, hat_code.blk, hat_code.esz, hat_code.len, hat_code.els, hne_code, hne1_code, hne2_code, onCur, dlI, dlT, curOf_lit, Enc.decL_map]; done)
  have hn2 := hs2.1.1
  simp only [push_n, set_n] at hn2 hb2
  have hS : Sub H H2 := ⟨⟨by omega, fun j k hj => hs2.1.2 _ _ (by
    have hjn := (hwf j k hj).1
    have qj0 : (j = H.n) = False := eq_false (by omega)
    simp [push_b, set_b, qj0, hj]; done)⟩, by have := hs2.2; simpa only [push_I, set_I] using this⟩
  clear hs2
  have hbq := (hw2 _ _ hat2.blk).1
  have r0 : (b2 = H.n) = False := eq_false (by omega)
  have r1 : (H.n = b2) = False := eq_false (by omega)
  have r2 : (H.n = b_code) = False := eq_false (by omega)
  have r3 : (b_code = H.n) = False := eq_false (by omega)
  have hce : (curK b_code i_code code.length a1 s1).esz ≠ 1 := by simp
  have hon2 : ∀ H', SubX H.n H2 H' → eSi.decL H' ((k2.els.drop 0).take ps.length) = some ps := fun H' hs => decL_x hc2 hce hs hat2.els
  simp only [List.drop_zero] at hon2
  have x1 : SubX H.n H2 H2 := SubX.refl _ _
  have x2 : ∀ H' k, SubX H.n H2 H' → SubX H.n H2 (H'.set H.n k) := fun H' k hs => SubX.set hw2 (.inl rfl) hs k
  have x3 : ∀ H' k, H2.n ≤ H'.n → SubX H.n H2 H' → SubX H.n H2 (H'.push k) := fun H' k hn hs => SubX.push hw2 hn hs k
  have x4 : ∀ H', SubX H.n H2 H' → SubX H.n H2 H'.toRo := fun H' hs => hs.toRo
  have hk2l := hat2.len
  simp only [Nat.zero_add] at hk2l
  have hlA : 0 ≤ a1 ∧ a1 ≤ 800000000 := by omega
  have p0 := ne5_of (a := H.n) (b := H2.n) (by omega)
  have p1 := ne5_of (a := b_code) (b := H2.n) (by omega)
  have p2 := ne5_of (a := b2) (b := H2.n) (by omega)
  simp (config := {contextual := true, implicitDefEqProofs := false, maxSteps := 2000000}) [-Int.not_le, -Int.not_lt, argsF, spec_DrawTraitsSeen_c, onCur, dlI, dlT, curOf_lit, hat_code.esz, hat_code.len, hat_code.els, hc2, hxb, hat2.blk, hat2.esz, hk2l, hon2, x1, x2, x3, x4, r0, r1, r2, r3, hlA, Enc.decL_map, p0, p1, p2]
  refine Stop.mk fun i a2 s2 hl2 hu2 => ?_
  have hlB : 0 ≤ a2 ∧ a2 ≤ 800000000 := by omega
  simp (config := {contextual := true, implicitDefEqProofs := false, maxSteps := 2000000}) [-Int.not_le, -Int.not_lt, argsF, spec_DrawTraitsSeen_c, onCur, dlI, dlT, curOf_lit, hat_code.esz, hat_code.len, hat_code.els, hc2, hxb, hat2.blk, hat2.esz, hk2l, hon2, x1, x2, x3, x4, r0, r1, r2, r3, hlA, Enc.decL_map, p0, p1, p2, hlB]
  refine Stop.mk fun j a3 s3 hl3 hu3 => ?_
  simp (config := {contextual := true, implicitDefEqProofs := false, maxSteps := 2000000}) [-Int.not_le, -Int.not_lt, argsF, spec_DrawTraitsSeen_c, onCur, dlI, dlT, curOf_lit, hat_code.esz, hat_code.len, hat_code.els, hc2, hxb, hat2.blk, hat2.esz, hk2l, hon2, x1, x2, x3, x4, r0, r1, r2, r3, hlA, Enc.decL_map, p0, p1, p2]
  exact Out.whole (by have := hS.1.1; simpa only [set_n] using this) (by simp [frOk, AV.okR, AV.ok1, AC.okR, AV.ren, AV.ren1, AC.ren, AFrame.get, pl1_old, *]; first | done | rfl | omega) fun hw => Stop.out h _ b2 k2 ps i j hw (Sub.set hwf hS (Nat.le_refl _) _) ⟨by simp [push_b, set_b, kill_b, onCur, dlI, dlT, curOf_lit, hat_code.esz, hat_code.len, hat_code.els, hc2, hxb, hat2.blk, hat2.esz, hk2l, hon2, x1, x2, x3, x4, r0, r1, r2, r3, hlA, Enc.decL_map, p0, p1, p2]; done, hat2.esz, hat2.len, by rw [List.drop_zero]; exact hon2 _ (x2 _ _ x1)⟩ hpl hsh

theorem spec_DrawAddSighting_s : Sound Tryz.prog 20 q_DAd := by
  intro args H K h
  unfold q_DAd at h
  split at h
  rotate_left
  all_goals first | exact False.elim h | skip
  rename_i code_v
  have h1 := Enc.rd_at h
  clear h
  obtain ⟨b_code, i_code, k_code, code, rfl, hat_code, h⟩ := h1
  have hE := soundE_cons spec_l1Cur__sightings13_s (soundE_cons spec_l1Cur__sighting13_s (soundE_nil (P := Tryz.prog)))
  refine acalls_fn spec_DrawAddSighting_k hE ⟨by simp, fun hwf => ?_⟩
  have hb_code : b_code < H.n := (hwf b_code k_code hat_code.blk).1
  have hne_code : (b_code = H.n) = False := eq_false (by omega)
  have hne1_code : ∀ i, (b_code = H.n + i) = False := fun i => eq_false (by omega)
  have hne2_code := ne2_of (a := b_code) (b := H.n) (by omega)
  have hmx_code : code.length ≤ 9223372036854775807 := by have h1 := (hwf b_code k_code hat_code.blk).2.2; have h2 := hat_code.len; omega
  obtain ⟨hcl, h⟩ := h
  have hr0_code : (H.n = b_code) = False := eq_false (by omega)
  have hr1_code : ∀ i, (H.n + i = b_code) = False := fun i => eq_false (by omega)
  have hnr2_code := nr2_of (a := b_code) (b := H.n) (by omega)
  simp (config := {contextual := true, implicitDefEqProofs := false, maxSteps := 2000000}) [-Int.not_le, -Int.not_lt, argsF, spec_DrawAddSighting_c, hr0_code, hr1_code, hnr2_code, hat_code.blk, hat_code.esz, hat_code.len, hat_code.els, hne_code, hne1_code, hne2_code, onCur, dlI, dlT, curOf_lit, Enc.decL_map]
  refine Stop.mk fun H2 b2 k2 ps a1 s1 hw2 hs2 hb2 hat2 hpl hsh hl1 hu1 => ?_
  have hc2 := cur_at hs2
  have hxb : H2.b b_code = some k_code := hs2.1.2 _ _ (by simp [push_b, set_b, hr0_code, hr1_code, hnr2_code, hat_code.blk, hat_code.esz, hat_code.len, hat_code.els, hne_code, hne1_code, hne2_code, onCur, dlI, dlT, curOf_lit, Enc.decL_map]; done)
  have hn2 := hs2.1.1
  simp only [push_n, set_n] at hn2 hb2
  have hS : Sub H H2 := ⟨⟨by omega, fun j k hj => hs2.1.2 _ _ (by
    have hjn := (hwf j k hj).1
    have qj0 : (j = H.n) = False := eq_false (by omega)
    simp [push_b, set_b, qj0, hj]; done)⟩, by have := hs2.2; simpa only [push_I, set_I] using this⟩
  clear hs2
  have hbq := (hw2 _ _ hat2.blk).1
  have r0 : (b2 = H.n) = False := eq_false (by omega)
  have r1 : (H.n = b2) = False := eq_false (by omega)
  have r2 : (H.n = b_code) = False := eq_false (by omega)
  have r3 : (b_code = H.n) = False := eq_false (by omega)
  have hce : (curK b_code i_code code.length a1 s1).esz ≠ 1 := by simp
  have hon2 : ∀ H', SubX H.n H2 H' → eSi.decL H' ((k2.els.drop 0).take ps.length) = some ps := fun H' hs => decL_x hc2 hce hs hat2.els
  simp only [List.drop_zero] at hon2
  have x1 : SubX H.n H2 H2 := SubX.refl _ _
  have x2 : ∀ H' k, SubX H.n H2 H' → SubX H.n H2 (H'.set H.n k) := fun H' k hs => SubX.set hw2 (.inl rfl) hs k
  have x3 : ∀ H' k, H2.n ≤ H'.n → SubX H.n H2 H' → SubX H.n H2 (H'.push k) := fun H' k hn hs => SubX.push hw2 hn hs k
  have x4 : ∀ H', SubX H.n H2 H' → SubX H.n H2 H'.toRo := fun H' hs => hs.toRo
  have hk2l := hat2.len
  simp only [Nat.zero_add] at hk2l
  have hlA : 0 ≤ a1 ∧ a1 ≤ 800000000 := by omega
  have p0 := ne5_of (a := H.n) (b := H2.n) (by omega)
  have p1 := ne5_of (a := b_code) (b := H2.n) (by omega)
  have p2 := ne5_of (a := b2) (b := H2.n) (by omega)
  have hlB : 0 ≤ a1 ∧ a1 ≤ 700000000 := by omega
  simp (config := {contextual := true, implicitDefEqProofs := false, maxSteps := 2000000}) [-Int.not_le, -Int.not_lt, argsF, spec_DrawAddSighting_c, onCur, dlI, dlT, curOf_lit, hat_code.esz, hat_code.len, hat_code.els, hc2, hxb, hat2.blk, hat2.esz, hk2l, hon2, x1, x2, x3, x4, r0, r1, r2, r3, hlA, Enc.decL_map, p0, p1, p2, hlB]
  refine Stop.mk fun H3 b3 k3 p a2 s2 hw3 hs3 hb3 hat3 htl htw hl2 hu2 => ?_
  have hn3 := hs3.1.1
  simp only [set_n] at hn3
  have hbq3 := (hw3 _ _ hat3.blk).1
  have hcp : siCells b3 p = [.int .i64 p.id, .int .i64 p.year, .str p.town, .sl b3 0 p.traits.length] := rfl
  have hX : SubX H.n H2 H3 := SubX.of_set hs3
  have hS3 : Sub H H3 := (Sub.set hwf hS (Nat.le_refl _) _).trans hs3
  have hk3 : H3.b b2 = some k2 := hs3.1.2 _ _ (by rw [set_b, if_neg (by omega)]; exact hat2.blk)
  simp (config := {contextual := true, implicitDefEqProofs := false, maxSteps := 2000000}) [-Int.not_le, -Int.not_lt, argsF, spec_DrawAddSighting_c, hcp]
  exact Out.whole (by have := hS3.1.1; simp only [push_n]; omega) (by simp [frOk, AV.okR, AV.ok1, AC.okR, AV.ren, AV.ren1, AC.ren, AFrame.get, pl1_old, *]; first | done | rfl | omega) fun hw => Stop.out h _ b2 k2 ps b3 k3 p hw (Sub.push hwf hS3 _) ⟨by rw [push_b, if_neg (by omega)]; exact hk3, hat2.esz, hat2.len, by rw [List.drop_zero]; exact hon2 _ (SubX.push hw2 hn3 hX _)⟩ hpl hsh (at_keep hat3 (by rw [push_b, if_neg (by omega)]; exact hat3.blk)) htl htw

theorem spec_DrawSightingText_s : Sound Tryz.prog 23 q_DSt := by
  intro args H K h
  unfold q_DSt at h
  split at h
  rotate_left
  all_goals first | exact False.elim h | skip
  rename_i code_v
  have h1 := Enc.rd_at h
  clear h
  obtain ⟨b_code, i_code, k_code, code, rfl, hat_code, h⟩ := h1
  have hE := soundE_cons spec_l1Cur__among_s (soundE_cons spec_l1Cur__sighting13_s (soundE_nil (P := Tryz.prog)))
  refine acalls_fn spec_DrawSightingText_k hE ⟨by simp, fun hwf => ?_⟩
  have hb_code : b_code < H.n := (hwf b_code k_code hat_code.blk).1
  have hne_code : (b_code = H.n) = False := eq_false (by omega)
  have hne1_code : ∀ i, (b_code = H.n + i) = False := fun i => eq_false (by omega)
  have hne2_code := ne2_of (a := b_code) (b := H.n) (by omega)
  have hmx_code : code.length ≤ 9223372036854775807 := by have h1 := (hwf b_code k_code hat_code.blk).2.2; have h2 := hat_code.len; omega
  obtain ⟨hcl, h⟩ := h
  have hr0_code : (H.n = b_code) = False := eq_false (by omega)
  have hr1_code : ∀ i, (H.n + i = b_code) = False := fun i => eq_false (by omega)
  have hnr2_code := nr2_of (a := b_code) (b := H.n) (by omega)
  simp (config := {contextual := true, implicitDefEqProofs := false, maxSteps := 2000000}) [-Int.not_le, -Int.not_lt, argsF, spec_DrawSightingText_c, hr0_code, hr1_code, hnr2_code, hat_code.blk, hat_code.esz, hat_code.len, hat_code.els, hne_code, hne1_code, hne2_code, onCur, dlI, dlT, curOf_lit, Enc.decL_map]
  refine Stop.mk fun x a1 s1 hx hl1 hu1 => ?_
  have hlB : 0 ≤ a1 ∧ a1 ≤ 700000000 := by omega
  simp (config := {contextual := true, implicitDefEqProofs := false, maxSteps := 2000000}) [-Int.not_le, -Int.not_lt, argsF, spec_DrawSightingText_c, hr0_code, hr1_code, hnr2_code, hat_code.blk, hat_code.esz, hat_code.len, hat_code.els, hne_code, hne1_code, hne2_code, onCur, dlI, dlT, curOf_lit, Enc.decL_map, hlB]
  refine Stop.mk fun H3 b3 k3 p a2 s2 hw3 hs3 hb3 hat3 htl htw hl2 hu2 => ?_
  have hz3 : H3.b H.n = some ⟨32, 4, false, false, [[.int .i64 0, .int .i64 0, .str [], .nils]]⟩ := hs3.1.2 _ _ (by simp [push_b, set_b, hr0_code, hr1_code, hnr2_code, hat_code.blk, hat_code.esz, hat_code.len, hat_code.els, hne_code, hne1_code, hne2_code, onCur, dlI, dlT, curOf_lit, Enc.decL_map]; done)
  have hn3 := hs3.1.1
  simp only [push_n, set_n] at hn3 hb3
  have hbq3 := (hw3 _ _ hat3.blk).1
  have hS3 : Sub H H3 := ⟨⟨by omega, fun j k hj => hs3.1.2 _ _ (by
    have hjn := (hwf j k hj).1
    have qj := ne5_of (a := j) (b := H.n) (by omega)
    simp [push_b, set_b, qj, hj]; done)⟩, by have := hs3.2; simpa only [push_I, set_I] using this⟩
  have hcp : siCells b3 p = [.int .i64 p.id, .int .i64 p.year, .str p.town, .sl b3 0 p.traits.length] := rfl
  simp (config := {contextual := true, implicitDefEqProofs := false, maxSteps := 2000000}) [-Int.not_le, -Int.not_lt, argsF, spec_DrawSightingText_c, hcp, hz3]
  exact Out.whole (by have := hS3.1.1; simp only [set_n]; omega) (by simp [frOk, AV.okR, AV.ok1, AC.okR, AV.ren, AV.ren1, AC.ren, AFrame.get, pl1_old, *]; first | done | rfl | omega) fun hw => Stop.out h _ b3 k3 p hw (Sub.set hwf hS3 (Nat.le_refl _) _) (at_keep hat3 (by rw [set_b, if_neg (by omega)]; exact hat3.blk)) htl htw

theorem laws_rSightings_s : Sound Tryz.prog 26 q_eqSis := by
  intro args H K h
  unfold q_eqSis at h
  split at h
  rotate_left
  all_goals first | exact False.elim h | skip
  rename_i ps_v rs_v
  have h1 := EncH.rd_at h
  clear h
  obtain ⟨b_ps, i_ps, k_ps, ps, rfl, hat_ps, h⟩ := h1
  have h1 := EncH.rd_at h
  clear h
  obtain ⟨b_rs, i_rs, k_rs, rs, rfl, hat_rs, h⟩ := h1
  have hE := soundE_cons laws_rInts_s (soundE_nil (P := Tryz.prog))
  refine acalls_fn laws_rSightings_k hE ⟨by simp, fun hwf => ?_⟩
  obtain ⟨hsr, hsp, hst, hss, hsk⟩ := hs_of hwf
  have hon_ps := hat_ps.on
  have hon_rs := hat_rs.on
  have hb_ps : b_ps < H.n := (hwf b_ps k_ps hat_ps.blk).1
  have hne_ps : (b_ps = H.n) = False := eq_false (by omega)
  have hne1_ps : ∀ i, (b_ps = H.n + i) = False := fun i => eq_false (by omega)
  have hne2_ps := ne2_of (a := b_ps) (b := H.n) (by omega)
  have hmx_ps : ps.length ≤ 9223372036854775807 := by have h1 := (hwf b_ps k_ps hat_ps.blk).2.2; have h2 := hat_ps.len; omega
  have hb_rs : b_rs < H.n := (hwf b_rs k_rs hat_rs.blk).1
  have hne_rs : (b_rs = H.n) = False := eq_false (by omega)
  have hne1_rs : ∀ i, (b_rs = H.n + i) = False := fun i => eq_false (by omega)
  have hne2_rs := ne2_of (a := b_rs) (b := H.n) (by omega)
  have hmx_rs : rs.length ≤ 9223372036854775807 := by have h1 := (hwf b_rs k_rs hat_rs.blk).2.2; have h2 := hat_rs.len; omega
  simp (config := {contextual := true, implicitDefEqProofs := false, maxSteps := 60000}) [-Int.not_le, -Int.not_lt, argsF, laws_rSightings_c, hat_ps.blk, hat_ps.esz, hat_ps.len, hon_ps, hne_ps, hne1_ps, hne2_ps, hat_rs.blk, hat_rs.esz, hat_rs.len, hon_rs, hne_rs, hne1_rs, hne2_rs, hsr, hsp, hst, hss, hsk]
  refine ite_i (fun hlen => ?_) (fun hlen => ?_)
  · refine aloop_list ps (fun j _ => [(0, .c (.sl b_ps i_ps ps.length)), (1, .c (.sl b_rs i_rs rs.length)), (5, .c (.int .i64 ((j : Int))))]) (fun j _ => H) (fun j l _ => K (.c (.bool (decide (l = rs.drop j)))) H) hE _ () (by simpa using h) (.same hwf (by simp [frOk, AV.okR, AV.ok1, AC.okR, AV.ren, AV.ren1, AC.ren, AFrame.get, pl1_old, *]; first | done | rfl | omega)) (fun j _ hlt hi => ?_) fun _ hi => ?_
    · have hr : j < rs.length := by omega
      have hr1 := idx_lt hr
      have hj1 := idx_lt hlt
      have w1 : IntKind.i64.wrap ((j : Int) + 1) = (j : Int) + 1 := wrap_id (by omega) (by omega)
      rw [List.drop_eq_getElem_cons hr] at hi
      simp only [List.cons.injEq] at hi
      obtain ⟨ex_x, e_x, hd_x⟩ := hat_ps.get hlt
      obtain ⟨b_x, i_x, k_x, rfl, hat_x, htx_x⟩ := eSi_at hd_x
      have hb_x : b_x < H.n := (hwf b_x k_x hat_x.blk).1
      have hne_x : (b_x = H.n) = False := eq_false (by omega)
      have hne1_x : ∀ i, (b_x = H.n + i) = False := fun i => eq_false (by omega)
      have hne2_x := ne2_of (a := b_x) (b := H.n) (by omega)
      obtain ⟨ex_y, e_y, hd_y⟩ := hat_rs.get hr
      obtain ⟨b_y, i_y, k_y, rfl, hat_y, htx_y⟩ := eSi_at hd_y
      have hb_y : b_y < H.n := (hwf b_y k_y hat_y.blk).1
      have hne_y : (b_y = H.n) = False := eq_false (by omega)
      have hne1_y : ∀ i, (b_y = H.n + i) = False := fun i => eq_false (by omega)
      have hne2_y := ne2_of (a := b_y) (b := H.n) (by omega)
      by_cases hc0 : ps[j].id = rs[j].id
      rotate_left
      · have hne : ¬ ps[j] = rs[j] := fun e => hc0 (by rw [e])
        simp only [hne, false_and, decide_false] at hi
        simp (config := {contextual := true, implicitDefEqProofs := false, maxSteps := 2000000}) [-Int.not_le, -Int.not_lt, argsF, laws_rSightings_l0, hat_ps.blk, hat_ps.esz, hat_ps.len, hon_ps, hne_ps, hne1_ps, hne2_ps, hat_rs.blk, hat_rs.esz, hat_rs.len, hon_rs, hne_rs, hne1_rs, hne2_rs, hsr, hsp, hst, hss, hsk, hj1, hr, hr1, w1, hlt, e_x, htx_x, hat_x.blk, hat_x.esz, hat_x.len, hat_x.els, hne_x, hne1_x, hne2_x, e_y, htx_y, hat_y.blk, hat_y.esz, hat_y.len, hat_y.els, hne_y, hne1_y, hne2_y, hc0]
        (refine Out.plain hwf ?_ rfl ?_; (repeat first | exact Sub.refl _ | refine Sub.push hwf ?_ _ | refine Sub.set hwf ?_ (by first | exact Nat.le_refl _ | omega | (simp only [push_n, set_n, kill_n]; omega)) _ | refine Sub.kill hwf ?_ (by first | exact Nat.le_refl _ | omega | (simp only [push_n, set_n, kill_n]; omega)))); exact hi
      by_cases hc1 : ps[j].year = rs[j].year
      rotate_left
      · have hne : ¬ ps[j] = rs[j] := fun e => hc1 (by rw [e])
        simp only [hne, false_and, decide_false] at hi
        simp (config := {contextual := true, implicitDefEqProofs := false, maxSteps := 2000000}) [-Int.not_le, -Int.not_lt, argsF, laws_rSightings_l0, hat_ps.blk, hat_ps.esz, hat_ps.len, hon_ps, hne_ps, hne1_ps, hne2_ps, hat_rs.blk, hat_rs.esz, hat_rs.len, hon_rs, hne_rs, hne1_rs, hne2_rs, hsr, hsp, hst, hss, hsk, hj1, hr, hr1, w1, hlt, e_x, htx_x, hat_x.blk, hat_x.esz, hat_x.len, hat_x.els, hne_x, hne1_x, hne2_x, e_y, htx_y, hat_y.blk, hat_y.esz, hat_y.len, hat_y.els, hne_y, hne1_y, hne2_y, hc0, hc1]
        (refine Out.plain hwf ?_ rfl ?_; (repeat first | exact Sub.refl _ | refine Sub.push hwf ?_ _ | refine Sub.set hwf ?_ (by first | exact Nat.le_refl _ | omega | (simp only [push_n, set_n, kill_n]; omega)) _ | refine Sub.kill hwf ?_ (by first | exact Nat.le_refl _ | omega | (simp only [push_n, set_n, kill_n]; omega)))); exact hi
      by_cases hc2 : ps[j].town = rs[j].town
      rotate_left
      · have hne : ¬ ps[j] = rs[j] := fun e => hc2 (by rw [e])
        simp only [hne, false_and, decide_false] at hi
        simp (config := {contextual := true, implicitDefEqProofs := false, maxSteps := 2000000}) [-Int.not_le, -Int.not_lt, argsF, laws_rSightings_l0, hat_ps.blk, hat_ps.esz, hat_ps.len, hon_ps, hne_ps, hne1_ps, hne2_ps, hat_rs.blk, hat_rs.esz, hat_rs.len, hon_rs, hne_rs, hne1_rs, hne2_rs, hsr, hsp, hst, hss, hsk, hj1, hr, hr1, w1, hlt, e_x, htx_x, hat_x.blk, hat_x.esz, hat_x.len, hat_x.els, hne_x, hne1_x, hne2_x, e_y, htx_y, hat_y.blk, hat_y.esz, hat_y.len, hat_y.els, hne_y, hne1_y, hne2_y, hc0, hc1, hc2]
        (refine Out.plain hwf ?_ rfl ?_; (repeat first | exact Sub.refl _ | refine Sub.push hwf ?_ _ | refine Sub.set hwf ?_ (by first | exact Nat.le_refl _ | omega | (simp only [push_n, set_n, kill_n]; omega)) _ | refine Sub.kill hwf ?_ (by first | exact Nat.le_refl _ | omega | (simp only [push_n, set_n, kill_n]; omega)))); exact hi
      simp (config := {contextual := true, implicitDefEqProofs := false, maxSteps := 2000000}) [-Int.not_le, -Int.not_lt, argsF, laws_rSightings_l0, hat_ps.blk, hat_ps.esz, hat_ps.len, hon_ps, hne_ps, hne1_ps, hne2_ps, hat_rs.blk, hat_rs.esz, hat_rs.len, hon_rs, hne_rs, hne1_rs, hne2_rs, hsr, hsp, hst, hss, hsk, hj1, hr, hr1, w1, hlt, e_x, htx_x, hat_x.blk, hat_x.esz, hat_x.len, hat_x.els, hne_x, hne1_x, hne2_x, e_y, htx_y, hat_y.blk, hat_y.esz, hat_y.len, hat_y.els, hne_y, hne1_y, hne2_y, hc0, hc1, hc2]
      refine ite_i (fun hc3 => ?_) (fun hc3 => ?_)
      · have he : ps[j] = rs[j] := si_ext.2 ⟨hc0, hc1, hc2, hc3⟩
        simp only [he, true_and] at hi
        exact ⟨(), hi, .drop hwf (by (repeat first | exact Sub.refl _ | refine Sub.push hwf ?_ _ | refine Sub.set hwf ?_ (by first | exact Nat.le_refl _ | omega | (simp only [push_n, set_n, kill_n]; omega)) _ | refine Sub.kill hwf ?_ (by first | exact Nat.le_refl _ | omega | (simp only [push_n, set_n, kill_n]; omega)))) (by simp [frOk, AV.okR, AV.ok1, AC.okR, AV.ren, AV.ren1, AC.ren, AFrame.get, pl1_old, *]; first | done | rfl | omega)⟩
      · have hne : ¬ ps[j] = rs[j] := fun e => hc3 (by rw [e])
        simp only [hne, false_and, decide_false] at hi
        (refine Out.plain hwf ?_ rfl ?_; (repeat first | exact Sub.refl _ | refine Sub.push hwf ?_ _ | refine Sub.set hwf ?_ (by first | exact Nat.le_refl _ | omega | (simp only [push_n, set_n, kill_n]; omega)) _ | refine Sub.kill hwf ?_ (by first | exact Nat.le_refl _ | omega | (simp only [push_n, set_n, kill_n]; omega)))); exact hi
    · simp (config := {contextual := true, implicitDefEqProofs := false, maxSteps := 2000000}) [-Int.not_le, -Int.not_lt, argsF, laws_rSightings_l0]
      rw [show ps.length = rs.length by omega, List.drop_length] at hi
      (refine Out.plain hwf ?_ rfl ?_; (repeat first | exact Sub.refl _ | refine Sub.push hwf ?_ _ | refine Sub.set hwf ?_ (by first | exact Nat.le_refl _ | omega | (simp only [push_n, set_n, kill_n]; omega)) _ | refine Sub.kill hwf ?_ (by first | exact Nat.le_refl _ | omega | (simp only [push_n, set_n, kill_n]; omega)))); simpa using hi
  · (refine Out.plain hwf ?_ rfl ?_; (repeat first | exact Sub.refl _ | refine Sub.push hwf ?_ _ | refine Sub.set hwf ?_ (by first | exact Nat.le_refl _ | omega | (simp only [push_n, set_n, kill_n]; omega)) _ | refine Sub.kill hwf ?_ (by first | exact Nat.le_refl _ | omega | (simp only [push_n, set_n, kill_n]; omega))))
    rwa [decide_eq_false (fun e => hlen (by rw [e]))] at h

end Go.Proofs.YtafenginfojcmaaGreatDoor
