/- A row put in order, by the kit's shelf. The groups of the sightings, by the program. The group of a sighting, by the program. The greatest limit. The years of a group. -/
import Derived.Test.YtafenginfojcmaaGreatDoorBas
import Derived.Test.YtafenginfojcmaaGreatDoorSiC
import Derived.Test.YtafenginfojcmaaGreatDoorShelf
import Derived.Test.YtafenginfojcmaaGreatDoorSiG
import Derived.Test.YtafenginfojcmaaGreatDoorBfs
set_option maxRecDepth 8000
set_option linter.unusedSimpArgs false
set_option linter.unusedVariables false
namespace Go.Proofs.YtafenginfojcmaaGreatDoor
open Go Go.RowKit

set_option maxHeartbeats 1000000
/-- a row's numbers in order -/
def sortI (zs : List Int) : List Int := zs.mergeSort fun x y => decide (x ≤ y)
theorem sortI_len (zs : List Int) : (sortI zs).length = zs.length := List.length_mergeSort zs
def q_sort : Con := fun args H K => match args with
  | [.c (.sl b i n)] => onv (H.b b) fun kb => i = 0 ∧ 0 < n ∧ n ≤ 1000000 ∧ kb.ro = false ∧ kb.esz = 1 ∧ kb.els.length = n ∧ onv (eI.decL kb.els) fun zs => K (.tup []) (H.set b (reK kb ((sortI zs).map eI.cells)))
  | _ => False
@[simp ↓] theorem q_sort_eq (b i n : Nat) (H : AHeap) (K : AV → AHeap → Prop) : q_sort [.c (.sl b i n)] H K = onv (H.b b) fun kb => i = 0 ∧ 0 < n ∧ n ≤ 1000000 ∧ kb.ro = false ∧ kb.esz = 1 ∧ kb.els.length = n ∧ onv (eI.decL kb.els) fun zs => K (.tup []) (H.set b (reK kb ((sortI zs).map eI.cells))) := rfl
theorem slices_Sort___int_int_s : Sound Tryz.prog 45 q_sort := by
  intro args H K h
  unfold q_sort at h
  split at h
  rotate_left
  all_goals first | exact False.elim h | skip
  rename_i b i n
  have h1 := onv_iff.1 h
  clear h
  obtain ⟨kb, hk, rfl, hn, hn2, hro, hesz, hlen, h⟩ := h1
  have h1 := onv_iff.1 h
  clear h
  obtain ⟨zs, hz, h⟩ := h1
  have he := Enc.decL_eq eI hz
  have hzl : zs.length = n := by rw [← hlen, he, List.length_map]
  refine ⟨fun args w => enters_of Tryz.func45 (by kernel_rfl) rfl args w, fun φ B w vs hH hr => ?_⟩
  obtain ⟨v, rfl⟩ : ∃ v, vs = [v] := by
    match vs, hr with
    | [v], _ => exact ⟨v, rfl⟩
    | [], hr => exact hr.elim
    | _ :: _ :: _, hr => exact hr.2.elim
  obtain ⟨hb, a, cap, rfl, hcap, hcap2, ha⟩ := hr.1
  obtain rfl := ha (by omega)
  have hphi : 0 < (φ b).cap := by omega
  have hown := hH.own b kb hk hro hphi
  have hc := hH.cells b kb hk
  obtain ⟨cs, fz, hrow, hsz, hfz, hfr⟩ := hown.row
  have hesz' : (φ b).esz = 1 := hc.esz.trans hesz
  have hcc := hc.cap
  rw [hesz', Nat.mul_one] at hsz
  have hadr : ∀ j, (φ b).adr j 0 = ⟨(φ b).blk, 0 + j, none⟩ := fun j => by simp [Place.adr, hown.off, hesz']
  have hcell : ∀ j (hj : j < zs.length), w.cell? ⟨(φ b).blk, 0 + j, none⟩ = some (.int .i64 zs[j]) := fun j hj => by
    obtain ⟨v, h1, h2⟩ := hc.cell j (eI.cells zs[j]) (by rw [he, List.getElem?_map, List.getElem?_eq_getElem hj]; rfl) 0 (.int .i64 zs[j]) rfl
    rw [hadr] at h1
    rw [h1, show v = .int .i64 zs[j] from h2]
  have hHo : Go.Sort.Holds (Value.int .i64) w (φ b).blk 0 zs.toArray := fun j hj => by
    have hj' : j < zs.length := by simpa using hj
    refine ⟨by rw [hcell j hj']; simp [hj'], ?_⟩
    have := hfr j (by omega)
    simp only [World.frozen?, hrow, Nat.zero_add]
    simpa using this
  have hblk : (φ b).blk < w.heap.size := (Array.getElem?_eq_some_iff.1 hrow).1
  rw [hadr 0]
  have main := Tryz.slices_Sort_int (φ b).blk 0 cap zs w hHo hblk (by omega)
  rw [hzl] at main
  refine main.mono ?_
  rintro e w' ⟨rfl, m, os, rfl⟩
  have hyl := sortI_len zs
  unfold sortI at hyl h
  generalize hys : (zs.mergeSort fun x y => decide (x ≤ y)) = ys at hyl h
  have hoth : ∀ c, c ≠ (φ b).blk → (Go.Sort.putRow (Value.int .i64) (Go.Sort.ahead w m) (φ b).blk 0 ys.toArray).heap[c]? = w.heap[c]? := fun c hc' => by
    simp [Go.Sort.putRow, Go.Sort.mapBlock, Go.Sort.ahead, Array.getElem?_modify, Ne.symm hc']
  have hrow1 : (Go.Sort.putRow (Value.int .i64) (Go.Sort.ahead w m) (φ b).blk 0 ys.toArray).heap[(φ b).blk]? = some (.cells (Go.Sort.putCells (Value.int .i64) 0 ys.toArray cs) kb.ty fz) := by
    simp [Go.Sort.putRow, Go.Sort.mapBlock, Go.Sort.ahead, Array.getElem?_modify, hrow, Go.Sort.onCells]
  have hsz1 : (Go.Sort.putRow (Value.int .i64) (Go.Sort.ahead w m) (φ b).blk 0 ys.toArray).heap.size = w.heap.size := by simp [Go.Sort.ahead]
  have hbl : Kept B w (Go.Sort.putRow (Value.int .i64) (Go.Sort.ahead w m) (φ b).blk 0 ys.toArray) :=
    ⟨⟨rfl, rfl, rfl, by rw [hsz1]; exact Nat.le_refl _, fun k hk' => hoth k (by have := hown.base; omega)⟩, fun c hc' => hoth c fun e => hown.out (e ▸ hc')⟩
  have hc' : BCells φ H.n (φ b) (reK kb (ys.map eI.cells)) (Go.Sort.putRow (Value.int .i64) (Go.Sort.ahead w m) (φ b).blk 0 ys.toArray) := by
    refine ⟨hc.esz, by simp only [reK_els, List.length_map]; omega, fun i e hi => ?_, fun i e hi j x hx => ?_⟩
    · simp only [reK_els, List.getElem?_map, Option.map_eq_some_iff] at hi
      obtain ⟨y, _, rfl⟩ := hi
      rw [reK_esz, hesz]; rfl
    · simp only [reK_els, List.getElem?_map, Option.map_eq_some_iff] at hi
      obtain ⟨y, hy, rfl⟩ := hi
      obtain ⟨hiy, rfl⟩ := List.getElem?_eq_some_iff.1 hy
      match j, hx with
      | 0, hx =>
        cases hx
        refine ⟨.int .i64 ys[i], ?_, rfl⟩
        rw [hadr, Go.Sort.cell?_putRow (Value.int .i64) (Go.Sort.ahead w m) (φ b).blk 0 zs.toArray ys.toArray hHo (by simp [hyl]) i (by simpa using hiy)]
        simp [hiy]
      | j + 1, hx => cases hx
  have hH1 := hH.stored (k' := reK kb (ys.map eI.cells)) hk hro hphi rfl rfl hro hsz1 hoth hrow1 ⟨cs, hrow, by simp [Go.Sort.putCells]⟩ hbl hc'
  have hb2 : Below (Go.Sort.putRow (Value.int .i64) (Go.Sort.ahead w m) (φ b).blk 0 ys.toArray).heap.size (Go.Sort.putRow (Value.int .i64) (Go.Sort.ahead w m) (φ b).blk 0 ys.toArray) (Go.Sort.grow (Go.Sort.putRow (Value.int .i64) (Go.Sort.ahead w m) (φ b).blk 0 ys.toArray) os) :=
    ⟨rfl, rfl, rfl, by simp [Go.Sort.grow], fun i hi => by simp only [Go.Sort.grow]; rw [Array.getElem?_append_left hi]⟩
  exact ⟨.tup [], _, φ, _, rfl, ⟨[], rfl, trivial⟩, hH1.keep hb2, hbl.trans (.of_below hH1.size hH1.tlt hb2), Nat.le_refl _, fun _ _ => rfl, h⟩

end Go.Proofs.YtafenginfojcmaaGreatDoor
set_option maxRecDepth 8000
set_option linter.unusedSimpArgs false
set_option linter.unusedVariables false
namespace Go.Proofs.YtafenginfojcmaaGreatDoor
open Go Go.RowKit

set_option maxHeartbeats 4000000
theorem Weak.le {n0 n1 : Nat} {F F' : AFrame} {H H' : AHeap} (hn : n1 ≤ n0) (h : Weak n0 F' H' F H) : Weak n1 F' H' F H := by
  obtain ⟨ρ, h1, h2, h3⟩ := h.ex
  exact ⟨ρ, fun b hb => h1 b (Nat.lt_of_lt_of_le hb hn), Nat.le_trans hn h2, h3⟩
def seenK (seen : List Bool) : ABlk := ⟨4, 1, false, false, seen.map fun v => [.bool v]⟩
def gsK (cs : List Nat) (gs : List (List Nat)) : ABlk := ⟨30, 1, false, false, List.zipWith (fun c g => [AC.sl c 0 g.length]) cs gs⟩
structure GX where
  H : AHeap
  bs : Nat
  seen : List Bool
  bg : Nat
  cs : List Nat
  gs : List (List Nat)
structure GX.Ok (x : GX) (H0 : AHeap) : Prop where
  sub : Sub H0 x.H
  sn : x.H.b x.bs = some (seenK x.seen)
  sg : H0.n ≤ x.bs
  gn : x.H.b x.bg = some (gsK x.cs x.gs)
  gg : H0.n ≤ x.bg
  ne : x.bg ≠ x.bs
  len : x.cs.length = x.gs.length
  row : ∀ (j c : Nat) (g : List Nat), x.cs[j]? = some c → x.gs[j]? = some g → x.H.b c = some (rowK eI 3 (nats g))
  cn : ∀ c ∈ x.cs, H0.n ≤ c ∧ c ≠ x.bs ∧ c ≠ x.bg
@[simp] theorem seenK_els (seen : List Bool) : (seenK seen).els = seen.map fun v => [AC.bool v] := rfl
@[simp] theorem seenK_esz (seen : List Bool) : (seenK seen).esz = 1 := rfl
@[simp] theorem seenK_ro (seen : List Bool) : (seenK seen).ro = false := rfl
@[simp] theorem seenK_fz (seen : List Bool) : (seenK seen).fz = false := rfl
@[simp] theorem gsK_els (cs : List Nat) (gs : List (List Nat)) : (gsK cs gs).els = List.zipWith (fun c g => [AC.sl c 0 g.length]) cs gs := rfl
@[simp] theorem gsK_esz (cs : List Nat) (gs : List (List Nat)) : (gsK cs gs).esz = 1 := rfl
@[simp] theorem gsK_ro (cs : List Nat) (gs : List (List Nat)) : (gsK cs gs).ro = false := rfl
theorem seenK_set (s : List Bool) (k : Nat) : (⟨(seenK s).ty, 1, false, false, (s.map fun v => [AC.bool v]).set k [AC.bool true]⟩ : ABlk) = seenK (s.set k true) := by simp [seenK, List.map_set]
theorem rowK_one (k : Nat) : (⟨3, 1, false, false, [[AC.int .i64 (k : Int)]]⟩ : ABlk) = rowK eI 3 (nats [k]) := rfl
theorem GX.Ok.chg {x : GX} {H0 : AHeap} (h : x.Ok H0) (H' : AHeap) (s' : List Bool) (hs : Sub H0 H') (h1 : H'.b x.bs = some (seenK s')) (h2 : ∀ b, b = x.bg ∨ b ∈ x.cs → H'.b b = x.H.b b) : (⟨H', x.bs, s', x.bg, x.cs, x.gs⟩ : GX).Ok H0 :=
  ⟨hs, h1, h.sg, (h2 _ (.inl rfl)).trans h.gn, h.gg, h.ne, h.len, fun j c g hc hg => (h2 c (.inr (List.mem_of_getElem? hc))).trans (h.row j c g hc hg), h.cn⟩
theorem GX.Ok.old {x : GX} {H0 : AHeap} (h : x.Ok H0) (hwx : x.H.WF) : x.bs < x.H.n ∧ x.bg < x.H.n ∧ ∀ c ∈ x.cs, c < x.H.n := ⟨(hwx _ _ h.sn).1, (hwx _ _ h.gn).1, fun c hc => by
  obtain ⟨j, hj⟩ := List.getElem?_of_mem hc
  have hjl := (List.getElem?_eq_some_iff.1 hj).1
  have h2 := h.len
  exact (hwx _ _ (h.row j c x.gs[j] hj (List.getElem?_eq_getElem (by omega)))).1⟩
structure GY where
  H : AHeap
  seen : List Bool
  b : Nat
  L : List Nat
structure GY.Ok (y : GY) (x : GX) (H0 : AHeap) : Prop where
  ok : (⟨y.H, x.bs, y.seen, x.bg, x.cs, x.gs⟩ : GX).Ok H0
  row : y.H.b y.b = some (rowK eI 3 (nats y.L))
  ge : H0.n ≤ y.b
  n1 : y.b ≠ x.bs
  n2 : y.b ≠ x.bg
  n3 : y.b ∉ x.cs
theorem GY.first {x : GX} {H0 : AHeap} (hwf : H0.WF) (h : x.Ok H0) (hwx : x.H.WF) (s' : List Bool) (L : List Nat) : (⟨(x.H.set x.bs (seenK s')).push (rowK eI 3 (nats L)), s', x.H.n, L⟩ : GY).Ok x H0 := by
  obtain ⟨o1, o2, o3⟩ := h.old hwx
  refine ⟨h.chg _ _ (Sub.push hwf (Sub.set hwf h.sub h.sg _) _) ?_ fun b hb => ?_, ?_, h.sub.1.1, by simp only; omega, by simp only; omega, fun hc => absurd (o3 _ hc) (Nat.lt_irrefl _)⟩
  · rw [push_b, set_n, if_neg (by omega), set_b, if_pos rfl]
  · show ((x.H.set x.bs (seenK s')).push (rowK eI 3 (nats L))).b b = x.H.b b
    have hb1 : b < x.H.n := hb.elim (fun e => e ▸ o2) (o3 b)
    have hb2 : b ≠ x.bs := hb.elim (fun e => e ▸ h.ne) fun hb => (h.cn b hb).2.1
    rw [push_b, set_n, if_neg (by omega), set_b, if_neg hb2]
  · simp [push_b]
@[simp] theorem gsK_ty (cs : List Nat) (gs : List (List Nat)) : (gsK cs gs).ty = 30 := rfl
@[simp] theorem gsK_fz (cs : List Nat) (gs : List (List Nat)) : (gsK cs gs).fz = false := rfl
theorem gsK_add {cs : List Nat} {gs : List (List Nat)} {b m : Nat} {C : List Nat} (hl : cs.length = gs.length) (hm : m = C.length) : (⟨30, 1, false, false, List.take gs.length (List.zipWith (fun c g => [AC.sl c 0 g.length]) cs gs) ++ [[AC.sl b 0 m]]⟩ : ABlk) = gsK (cs ++ [b]) (gs ++ [C]) := by
  subst hm
  rw [List.take_of_length_le (by simp [hl])]
  simp [gsK, List.zipWith_append hl]
theorem sort_nats {e : Nat → Nat → Bool} {n k : Nat} {L : List Nat} (hd : L.Nodup) (hm : ∀ x, x ∈ L ↔ Rch e n k x) : sortI (nats L) = nats (comp e n k) ∧ L.length = (comp e n k).length := by
  have hp : (sortI (nats L)).Perm (nats L) := List.mergeSort_perm _ _
  have hs : (sortI (nats L)).Pairwise (fun x y => decide (x ≤ y) = true) := List.pairwise_mergeSort (fun a b c h1 h2 => by simp only [decide_eq_true_eq] at *; omega) (fun a b => by simp only [Bool.or_eq_true, decide_eq_true_eq]; omega) _
  have h0 : ∀ x ∈ sortI (nats L), 0 ≤ x := fun x hx => by
    have := hp.mem_iff.1 hx
    simp only [nats, List.mem_map] at this
    obtain ⟨a, _, rfl⟩ := this
    omega
  have hS : sortI (nats L) = nats ((sortI (nats L)).map Int.toNat) := by
    show _ = ((sortI (nats L)).map Int.toNat).map fun (k : Nat) => (k : Int)
    rw [List.map_map]
    conv => lhs; rw [← List.map_id (sortI (nats L))]
    exact List.map_congr_left fun x hx => by have := h0 x hx; simp; omega
  have hpm : ((sortI (nats L)).map Int.toNat).Perm L := by
    have := hp.map Int.toNat
    have e1 : (nats L).map Int.toNat = L := by
      rw [nats, List.map_map]
      conv => rhs; rw [← List.map_id L]
      exact List.map_congr_left fun x _ => by simp
    rwa [e1] at this
  have hup : ((sortI (nats L)).map Int.toNat).Pairwise (· < ·) := by
    have hle : ((sortI (nats L)).map Int.toNat).Pairwise (· ≤ ·) := by
      rw [List.pairwise_map]
      refine hs.imp fun {a b} h => ?_
      simp only [decide_eq_true_eq] at h
      omega
    have hnd : ((sortI (nats L)).map Int.toNat).Pairwise (· ≠ ·) := hpm.nodup_iff.2 hd
    exact (hle.and hnd).imp fun {a b} h => by have := h.1; have := h.2; omega
  have hM := up_ext hup (comp_up (e := e) (n := n) (i := k)) fun x => (hpm.mem_iff.trans (hm x)).trans mem_comp.symm
  rw [hM] at hS hpm
  exact ⟨hS, hpm.length_eq.symm⟩
theorem rowK_add (L : List Nat) (i : Nat) : (⟨3, 1, false, false, List.take L.length (List.map eI.cells (nats L)) ++ [[AC.int .i64 (i : Int)]]⟩ : ABlk) = rowK eI 3 (nats (L ++ [i])) := by
  rw [List.take_of_length_le (by simp)]
  simp [rowK, nats]
theorem GY.hit {x : GX} {z : GY} {H0 : AHeap} (hwf : H0.WF) (hz : z.Ok x H0) (hwz : z.H.WF) (s' : List Bool) (L' : List Nat) (K : ABlk) : (⟨(((z.H.set x.bs (seenK s')).push K).kill z.b).push (rowK eI 3 (nats L')), s', z.H.n + 1, L'⟩ : GY).Ok x H0 := by
  obtain ⟨o1, o2, o3⟩ := hz.ok.old hwz
  simp only at o1 o2 o3
  have hne := hz.ok.ne
  have hn0 := hz.ok.sub.1.1
  simp only at hne hn0
  have hold : ∀ b, b < z.H.n → b ≠ z.b → ((((z.H.set x.bs (seenK s')).push K).kill z.b).push (rowK eI 3 (nats L'))).b b = if b = x.bs then some (seenK s') else z.H.b b := fun b h1 h2 => by
    rw [push_b, if_neg (by simp only [kill_n, push_n, set_n]; omega), kill_b, if_neg h2, push_b, if_neg (by simp only [set_n]; omega), set_b]
  refine ⟨hz.ok.chg _ _ (Sub.push hwf (Sub.kill hwf (Sub.push hwf (Sub.set hwf hz.ok.sub hz.ok.sg _) _) hz.ge) _) ?_ fun b hb => ?_, by simp [push_b], by simp only; omega, by simp only; omega, by simp only; omega, fun hc => by have := o3 _ hc; simp only at this; omega⟩
  · exact (hold _ o1 (Ne.symm hz.n1)).trans (if_pos rfl)
  · have hb1 : b < z.H.n := hb.elim (fun e => by rw [e]; exact o2) (o3 b)
    have hb2 : b ≠ x.bs := hb.elim (fun e => by rw [e]; exact hne) fun hb => (hz.ok.cn b hb).2.1
    have hb3 : b ≠ z.b := hb.elim (fun e => by rw [e]; exact Ne.symm hz.n2) fun hb e => hz.n3 (e ▸ hb)
    exact (hold b hb1 hb3).trans (if_neg hb2)
theorem GX.last {x : GX} {y : GY} {H0 : AHeap} (hwf : H0.WF) (hy : y.Ok x H0) (hwy : y.H.WF) (C : List Nat) (K : ABlk) : (⟨(((y.H.set y.b (rowK eI 3 (nats C))).push K).kill x.bg).push (gsK (x.cs ++ [y.b]) (x.gs ++ [C])), x.bs, y.seen, y.H.n + 1, x.cs ++ [y.b], x.gs ++ [C]⟩ : GX).Ok H0 := by
  obtain ⟨o1, o2, o3⟩ := hy.ok.old hwy
  simp only at o1 o2 o3
  have hby : y.b < y.H.n := (hwy _ _ hy.row).1
  have hl := hy.ok.len
  have hne := hy.ok.ne
  have hn0 := hy.ok.sub.1.1
  simp only at hl hne hn0
  have hold : ∀ b, b < y.H.n → b ≠ x.bg → b ≠ y.b → ((((y.H.set y.b (rowK eI 3 (nats C))).push K).kill x.bg).push (gsK (x.cs ++ [y.b]) (x.gs ++ [C]))).b b = y.H.b b := fun b h1 h2 h3 => by
    rw [push_b, if_neg (by simp only [kill_n, push_n, set_n]; omega), kill_b, if_neg h2, push_b, if_neg (by simp only [set_n]; omega), set_b, if_neg h3]
  refine ⟨Sub.push hwf (Sub.kill hwf (Sub.push hwf (Sub.set hwf hy.ok.sub hy.ge _) _) hy.ok.gg) _, ?_, hy.ok.sg, ?_, by simp only; omega, by simp only; omega, by simp [hl], fun j c g hc hg => ?_, fun c hc => ?_⟩
  · exact (hold _ o1 (Ne.symm hne) (Ne.symm hy.n1)).trans hy.ok.sn
  · simp [push_b]
  · simp only at hc hg ⊢
    rcases Nat.lt_or_ge j x.cs.length with hj | hj
    · rw [List.getElem?_append_left hj] at hc
      rw [List.getElem?_append_left (by omega)] at hg
      have hcm := List.mem_of_getElem? hc
      exact (hold c (o3 c hcm) (hy.ok.cn c hcm).2.2 fun e => hy.n3 (e ▸ hcm)).trans (hy.ok.row j c g hc hg)
    · have hj2 : j = x.cs.length := by have := (List.getElem?_eq_some_iff.1 hc).1; simp at this; omega
      subst hj2
      rw [List.getElem?_append_right (Nat.le_refl _)] at hc
      rw [List.getElem?_append_right (by omega)] at hg
      simp [hl] at hc hg
      subst hc hg
      rw [push_b, if_neg (by simp only [kill_n, push_n, set_n]; omega), kill_b, if_neg hy.n2, push_b, if_neg (by simp only [set_n]; omega), set_b, if_pos rfl]
  · rcases List.mem_append.1 hc with hc | hc
    · have := hy.ok.cn c hc
      have := o3 c hc
      exact ⟨by omega, by simp only at *; omega, by simp only; omega⟩
    · rw [List.mem_singleton.1 hc]
      exact ⟨hy.ge, hy.n1, by simp only; omega⟩
theorem GX.Ok.at {x : GX} {H0 : AHeap} (h : x.Ok H0) : eII.At x.H x.bg 0 (gsK x.cs x.gs) (x.gs.map nats) := by
  refine ⟨h.gn, rfl, by simp [h.len], ?_⟩
  rw [gsK_els, List.drop_zero, List.take_of_length_le (by simp [h.len])]
  have : ∀ (cs : List Nat) (gs : List (List Nat)), cs.length = gs.length → (∀ (j c : Nat) (g : List Nat), cs[j]? = some c → gs[j]? = some g → x.H.b c = some (rowK eI 3 (nats g))) → eII.decL x.H (List.zipWith (fun c g => [AC.sl c 0 g.length]) cs gs) = some (gs.map nats) := by
    intro cs
    induction cs with
    | nil => intro gs hl _; cases gs with
      | nil => rfl
      | cons g gs => simp at hl
    | cons c cs ih =>
      intro gs hl hr
      cases gs with
      | nil => simp at hl
      | cons g gs =>
        have h0 := hr 0 c g rfl rfl
        have h1 := ih gs (by simpa using hl) fun j c g hc hg => hr (j + 1) c g (by simpa using hc) (by simpa using hg)
        have h2 : eII.dec x.H [AC.sl c 0 g.length] = some (nats g) := by
          have e : List.take g.length (List.map eI.cells (nats g)) = List.map eI.cells (nats g) := List.take_of_length_le (by simp)
          simp [eII, rdI, h0, e]
        simp only [List.zipWith_cons_cons, EncH.decL, h1, h2, List.map_cons]
  exact this _ _ h.len h.row

def q_groups : Con := fun args H K => match args with
  | [ps_v, .c (.int .i64 limit)] => eSi.rd H (fun ps => ps.length ≤ 10 ∧ (∀ p ∈ ps, p.traits.length ≤ 1048576) ∧ (∀ x k, x < ps.length → k < ps.length → edge ps limit x k = true → edge ps limit k x = true) ∧ Stop (∀ H' b k, H'.WF → Sub H H' → eII.At H' b 0 k ((groupsTo (edge ps limit) ps.length ps.length).map nats) → K (.c (.sl (b) (0) ((groupsTo (edge ps limit) ps.length ps.length).length))) H') ()) ps_v
  | _ => False
@[simp ↓] theorem q_groups_eq (ps_v : AV) (limit : Int) (H : AHeap) (K : AV → AHeap → Prop) : q_groups [ps_v, .c (.int .i64 limit)] H K = (eSi.rd H (fun ps => ps.length ≤ 10 ∧ (∀ p ∈ ps, p.traits.length ≤ 1048576) ∧ (∀ x k, x < ps.length → k < ps.length → edge ps limit x k = true → edge ps limit k x = true) ∧ Stop (∀ H' b k, H'.WF → Sub H H' → eII.At H' b 0 k ((groupsTo (edge ps limit) ps.length ps.length).map nats) → K (.c (.sl (b) (0) ((groupsTo (edge ps limit) ps.length ps.length).length))) H') ()) ps_v) := rfl

theorem impl_sightingGroups_s : Sound Tryz.prog 35 q_groups := by
  intro args H K h
  unfold q_groups at h
  split at h
  rotate_left
  all_goals first | exact False.elim h | skip
  rename_i ps_v limit
  have h1 := EncH.rd_at h
  clear h
  obtain ⟨b_ps, i_ps, k_ps, ps, rfl, hat_ps, h⟩ := h1
  have hE := soundE_cons impl_evidence_s (soundE_cons slices_Sort___int_int_s (soundE_nil (P := Tryz.prog)))
  refine acalls_fn impl_sightingGroups_k hE ⟨by simp, fun hwf => ?_⟩
  obtain ⟨hsr, hsp, hst, hss, hsk⟩ := hs_of hwf
  have hon_ps := hat_ps.on
  have hb_ps : b_ps < H.n := (hwf b_ps k_ps hat_ps.blk).1
  have hne_ps : (b_ps = H.n) = False := eq_false (by omega)
  have hne1_ps : ∀ i, (b_ps = H.n + i) = False := fun i => eq_false (by omega)
  have hne2_ps := ne2_of (a := b_ps) (b := H.n) (by omega)
  have hmx_ps : ps.length ≤ 9223372036854775807 := by have h1 := (hwf b_ps k_ps hat_ps.blk).2.2; have h2 := hat_ps.len; omega
  obtain ⟨hl, hl2, hsym, h⟩ := h
  have hl3 : (ps.length : Int) ≤ 140737488355328 := by omega
  simp (config := {contextual := true, implicitDefEqProofs := false, maxSteps := 2000000}) [-Int.not_le, -Int.not_lt, argsF, impl_sightingGroups_c, hat_ps.blk, hat_ps.esz, hat_ps.len, hon_ps, hne_ps, hne1_ps, hne2_ps, hsr, hsp, hst, hss, hsk, hl3]
  refine aloop_heap (X := GX × Nat) (fun x => [(0, .c (.sl b_ps i_ps ps.length)), (1, .c (.int .i64 (limit))), (5, .c (.sl (x.1.bs) (0) (ps.length))), (6, .c (.sl (x.1.bg) (0) (x.1.gs.length))), (15, .c (.int .i64 ps.length)), (16, .c (.int .i64 ((x.2 : Int))))]) (fun x => x.1.H)
    (fun x => x.1.Ok H ∧ x.2 ≤ ps.length ∧ SeenTo (edge ps limit) ps.length x.2 x.1.seen ∧ x.1.gs = groupsTo (edge ps limit) ps.length x.2) (fun x => ps.length - x.2) hE _
    (⟨(H.push (seenK (List.replicate ps.length false))).push (gsK [] []), H.n, List.replicate ps.length false, H.n + 1, [], []⟩, 0) ?_ (fun hw0 => ?_) (fun x hx hwx => ?_)
  · exact ⟨⟨Sub.push hwf (Sub.push hwf (.refl _) _) _, by simp [push_b], Nat.le_refl _, by simp [push_b], Nat.le_succ _, by simp, rfl, fun j c g hc => by simp at hc, fun c hc => by simp at hc⟩, Nat.zero_le _, SeenTo.zero _ _, rfl⟩
  · have e0 : (seenK (List.replicate ps.length false)) = ⟨4, 1, false, false, List.replicate ps.length [AC.bool false]⟩ := by simp [seenK]
    rw [← e0] at hw0 ⊢
    have hb2 : b_ps < H.n + 1 := by omega
    have hb3 : b_ps < H.n + 1 + 1 := by omega
    clear e0
    have p1 : pl1 (H.push (seenK (List.replicate ps.length false))) none b_ps = some b_ps := pl1_old _ _ hb2
    have p2 : pl1 (H.push (seenK (List.replicate ps.length false))) none H.n = some H.n := pl1_old _ _ (Nat.lt_succ_self _)
    have p3 : pl1 (H.push (seenK (List.replicate ps.length false))) none (H.n + 1) = none := by simp [pl1]
    exact Weak.le (by simp only [push_n]; omega) (.one (c := none) hw0 (.refl _) ⟨rfl, rfl⟩ (by simp) (by simp [frOk, AV.okR, AV.ok1, AC.okR, AV.ren, AV.ren1, AC.ren, AFrame.get, p1, p2, p3, hb2, hb3]; try omega))
  · obtain ⟨x, k⟩ := x
    have hok : x.Ok H := hx.1
    have hkl : k ≤ ps.length := hx.2.1
    have hse : SeenTo (edge ps limit) ps.length k x.seen := hx.2.2.1
    have hgs : x.gs = groupsTo (edge ps limit) ps.length k := hx.2.2.2
    have hnx : H.n ≤ x.H.n := hok.sub.1.1
    have hbs : x.bs < x.H.n := (hwx _ _ hok.sn).1
    have hbg : x.bg < x.H.n := (hwx _ _ hok.gn).1
    rcases Nat.lt_or_ge k ps.length with hk | hk
    rotate_left
    · obtain rfl : k = ps.length := by omega
      simp (config := {contextual := true, implicitDefEqProofs := false, maxSteps := 2000000}) [-Int.not_le, -Int.not_lt, argsF, impl_sightingGroups_l2]
      rw [← hgs] at h
      exact Out.whole hok.sub.1.1 (by simp [frOk, AV.okR, AV.ok1, AC.okR, AV.ren, AV.ren1, AC.ren, AFrame.get, pl1_old, *]; first | done | rfl | omega) fun hw => Stop.go h x.H x.bg _ hw hok.sub hok.at
    have hki : ((k : Int) < (ps.length : Int)) = True := eq_true (by omega)
    have w1 : IntKind.i64.wrap ((k : Int) + 1) = (k : Int) + 1 := wrap_id (by omega) (by omega)
    have hks : k < x.seen.length := by rw [hse.1]; exact hk
    cases hsk : x.seen[k] with
    | true =>
      simp (config := {contextual := true, implicitDefEqProofs := false, maxSteps := 2000000}) [-Int.not_le, -Int.not_lt, argsF, impl_sightingGroups_l2, hok.sn, hki, hk, hks, hsk, hse.1, w1]
      obtain ⟨g1, g2⟩ := hse.skip hk (by rw [List.getElem?_eq_getElem hks, hsk])
      exact ⟨fun hw => ⟨(x, k + 1), ⟨hok, hk, g2, by rw [groupsTo_no g1]; exact hgs⟩, by simp only; omega, .since hok.sub.1.1 hw (.refl _) (by simp [frOk, AV.okR, AV.ok1, AC.okR, AV.ren, AV.ren1, AC.ren, AFrame.get, pl1_old, *]; first | done | rfl | omega)⟩⟩
    | false =>
      simp (config := {contextual := true, implicitDefEqProofs := false, maxSteps := 2000000}) [-Int.not_le, -Int.not_lt, argsF, impl_sightingGroups_l2, hok.sn, hki, hk, hks, hsk, hse.1, w1]
      rw [seenK_set, rowK_one]
      have hw1 : x.H.WF := hwx
      refine aloop_heap (X := GY × Nat) (fun y => [(0, .c (.sl b_ps i_ps ps.length)), (1, .c (.int .i64 (limit))), (5, .c (.sl (x.bs) (0) (ps.length))), (6, .c (.sl (x.bg) (0) (x.gs.length))), (8, .c (.sl (y.1.b) (0) (y.1.L.length))), (9, .c (.int .i64 ((y.2 : Int)))), (15, .c (.int .i64 ps.length)), (16, .c (.int .i64 ((k : Int))))]) (fun y => y.1.H)
        (fun y => y.1.Ok x H ∧ Bfs (edge ps limit) ps.length k y.1.seen y.1.L y.2 0) (fun y => ps.length - y.2) hE _
        (⟨(x.H.set x.bs (seenK (x.seen.set k true))).push (rowK eI 3 (nats [k])), x.seen.set k true, x.H.n, [k]⟩, 0) ⟨GY.first hwf hok hw1 _ _, hse.start hk (by rw [List.getElem?_eq_getElem hks, hsk])⟩ (fun hw0 => ?_) (fun y hy hwy => ?_)
      · have hb2 : b_ps ≤ x.H.n := by omega
        have hb3 : x.bs ≤ x.H.n := by omega
        have hb4 : x.bg ≤ x.H.n := by omega
        exact .since (by simp only [push_n, set_n]; omega) hw0 (.refl _) (by simp [frOk, AV.okR, AV.ok1, AC.okR, AV.ren, AV.ren1, AC.ren, AFrame.get, pl1_old, *]; first | done | rfl | omega)
      · obtain ⟨y, g⟩ := y
        have hyo : y.Ok x H := hy.1
        have hbf : Bfs (edge ps limit) ps.length k y.seen y.L g 0 := hy.2
        have hwy' : y.H.WF := hwy
        have hny : H.n ≤ y.H.n := hyo.ok.sub.1.1
        obtain ⟨o1, o2, o3⟩ := hyo.ok.old hwy'
        simp only at o1 o2 o3
        have hby : y.b < y.H.n := (hwy' _ _ hyo.row).1
        have hLn := hbf.len
        rcases Nat.lt_or_ge g y.L.length with hg | hg
        · have hgi : ((g : Int) < (y.L.length : Int)) = True := eq_true (by omega)
          have w2 : IntKind.i64.wrap ((g : Int) + 1) = (g : Int) + 1 := wrap_id (by omega) (by omega)
          simp (config := {contextual := true, implicitDefEqProofs := false, maxSteps := 2000000}) [-Int.not_le, -Int.not_lt, argsF, impl_sightingGroups_l1, hgi]
          refine aloop_heap (X := GY × Nat) (fun z => [(0, .c (.sl b_ps i_ps ps.length)), (1, .c (.int .i64 (limit))), (5, .c (.sl (x.bs) (0) (ps.length))), (6, .c (.sl (x.bg) (0) (x.gs.length))), (8, .c (.sl (z.1.b) (0) (z.1.L.length))), (9, .c (.int .i64 ((g : Int)))), (15, .c (.int .i64 ps.length)), (16, .c (.int .i64 ((k : Int)))), (35, .c (.int .i64 ps.length)), (36, .c (.int .i64 ((z.2 : Int))))]) (fun z => z.1.H)
            (fun z => z.1.Ok x H ∧ Bfs (edge ps limit) ps.length k z.1.seen z.1.L g z.2 ∧ z.2 ≤ ps.length ∧ g < z.1.L.length) (fun z => ps.length - z.2) hE _ (y, 0) ⟨hyo, hbf, Nat.zero_le _, hg⟩ (fun hw0 => .since hny hw0 (.refl _) (by simp [frOk, AV.okR, AV.ok1, AC.okR, AV.ren, AV.ren1, AC.ren, AFrame.get, pl1_old, *]; first | done | rfl | omega)) (fun z hz hwz => ?_)
          obtain ⟨z, i⟩ := z
          have hzo : z.Ok x H := hz.1
          have hzb : Bfs (edge ps limit) ps.length k z.seen z.L g i := hz.2.1
          have hil : i ≤ ps.length := hz.2.2.1
          have hgl2 : g < z.L.length := hz.2.2.2
          have hwz' : z.H.WF := hwz
          have hnz : H.n ≤ z.H.n := hzo.ok.sub.1.1
          obtain ⟨o1z, o2z, o3z⟩ := hzo.ok.old hwz'
          simp only at o1z o2z o3z
          have hbz : z.b < z.H.n := (hwz' _ _ hzo.row).1
          have hsn : z.H.b x.bs = some (seenK z.seen) := hzo.ok.sn
          rcases Nat.lt_or_ge i ps.length with hi | hi
          · have hii : ((i : Int) < (ps.length : Int)) = True := eq_true (by omega)
            have his : i < z.seen.length := by rw [hzb.sl]; exact hi
            have hsl := hzb.sl
            have w3 : IntKind.i64.wrap ((i : Int) + 1) = (i : Int) + 1 := wrap_id (by omega) (by omega)
            have q1 : (x.bs = z.H.n) = False := eq_false (by omega)
            have q2 : (x.bs = z.b) = False := eq_false (fun e => hzo.n1 e.symm)
            have q3 : (z.b = x.bs) = False := eq_false hzo.n1
            have q4 : (z.b = z.H.n) = False := eq_false (by omega)
            cases hsi : z.seen[i] with
            | true =>
              simp (config := {contextual := true, implicitDefEqProofs := false, maxSteps := 2000000}) [-Int.not_le, -Int.not_lt, argsF, impl_sightingGroups_l0, hii, hsn, hi, his, hsi, hsl, w3]
              exact ⟨fun hw => ⟨(z, i + 1), ⟨hzo, hzb.miss hsym hi (List.getElem?_eq_getElem hgl2) (.inl (by rw [List.getElem?_eq_getElem his, hsi])), hi, hgl2⟩, by simp only; omega, .since hnz hw (.refl _) (by simp [frOk, AV.okR, AV.ok1, AC.okR, AV.ren, AV.ren1, AC.ren, AFrame.get, pl1_old, *]; first | done | rfl | omega)⟩⟩
            | false =>
              have hLg : z.L[g] < ps.length := (hzb.rch _ (List.getElem_mem hgl2)).lt
              have hat_ps : eSi.At z.H b_ps i_ps k_ps ps := hat_ps.sub hzo.ok.sub
              have hwf0 := hwf
              have hwf := hwz'
              obtain ⟨ex_u, e_u, hd_u⟩ := hat_ps.get hLg
              obtain ⟨b_u, i_u, k_u, rfl, hat_u, htx_u⟩ := eSi_at hd_u
              have hb_u : b_u < z.H.n := (hwf b_u k_u hat_u.blk).1
              have hne_u : (b_u = z.H.n) = False := eq_false (by omega)
              have hne1_u : ∀ i, (b_u = z.H.n + i) = False := fun i => eq_false (by omega)
              have hne2_u := ne2_of (a := b_u) (b := z.H.n) (by omega)
              obtain ⟨ex_v, e_v, hd_v⟩ := hat_ps.get hi
              obtain ⟨b_v, i_v, k_v, rfl, hat_v, htx_v⟩ := eSi_at hd_v
              have hb_v : b_v < z.H.n := (hwf b_v k_v hat_v.blk).1
              have hne_v : (b_v = z.H.n) = False := eq_false (by omega)
              have hne1_v : ∀ i, (b_v = z.H.n + i) = False := fun i => eq_false (by omega)
              have hne2_v := ne2_of (a := b_v) (b := z.H.n) (by omega)
              have hla := hl2 _ (List.getElem_mem hLg)
              have hlb := hl2 _ (List.getElem_mem hi)
              have hzr := hzo.row
              have er : (nats z.L)[g]'(by rw [nats_len]; exact hgl2) = (z.L[g] : Int) := by simp [nats]
              have hLi : ((z.L[g] : Int) < (ps.length : Int)) = True := eq_true (by omega)
              have hgi2 : ((g : Int) < (z.L.length : Int)) = True := eq_true (by omega)
              have hed : edge ps limit z.L[g] i = decide (limit ≤ evid ps[z.L[g]] ps[i]) := by simp [edge, List.getD_eq_getElem?_getD, hLg, hi]
              by_cases he : limit ≤ evid ps[z.L[g]] ps[i]
              · have he' : edge ps limit z.L[g] i = true := by rw [hed]; exact decide_eq_true he
                simp (config := {contextual := true, implicitDefEqProofs := false, maxSteps := 2000000}) [-Int.not_le, -Int.not_lt, argsF, impl_sightingGroups_l0, hii, hsn, hi, his, hsi, hsl, w3, hzr, hgi2, hgl2, er, hLi, hLg, hat_ps.blk, hat_ps.esz, hat_ps.len, hon_ps, hne_ps, hne1_ps, hne2_ps, e_u, htx_u, hat_u.blk, hat_u.esz, hat_u.len, hat_u.els, hne_u, hne1_u, hne2_u, e_v, htx_v, hat_v.blk, hat_v.esz, hat_v.len, hat_v.els, hne_v, hne1_v, hne2_v, hla, hlb, he, q1, q2, q3, q4]
                rw [seenK_set, rowK_add]
                have hzL := hzb.len
                refine ⟨by omega, by omega, ⟨fun hw => ⟨(⟨_, z.seen.set i true, z.H.n + 1, z.L ++ [i]⟩, i + 1), ⟨GY.hit hwf0 hzo hwz' _ _ _, hzb.hit hi (List.getElem?_eq_getElem hgl2) (by rw [List.getElem?_eq_getElem his, hsi]) he', hi, by simp only [List.length_append]; omega⟩, by simp only; omega, .since (by simp only [push_n, kill_n, set_n]; omega) hw (.refl _) (by simp [frOk, AV.okR, AV.ok1, AC.okR, AV.ren, AV.ren1, AC.ren, AFrame.get, pl1_old, *]; first | done | rfl | omega)⟩⟩⟩
              · have he' : edge ps limit z.L[g] i = false := by rw [hed]; exact decide_eq_false he
                simp (config := {contextual := true, implicitDefEqProofs := false, maxSteps := 2000000}) [-Int.not_le, -Int.not_lt, argsF, impl_sightingGroups_l0, hii, hsn, hi, his, hsi, hsl, w3, hzr, hgi2, hgl2, er, hLi, hLg, hat_ps.blk, hat_ps.esz, hat_ps.len, hon_ps, hne_ps, hne1_ps, hne2_ps, e_u, htx_u, hat_u.blk, hat_u.esz, hat_u.len, hat_u.els, hne_u, hne1_u, hne2_u, e_v, htx_v, hat_v.blk, hat_v.esz, hat_v.len, hat_v.els, hne_v, hne1_v, hne2_v, hla, hlb, he, q1, q2, q3, q4]
                exact ⟨fun hw => ⟨(z, i + 1), ⟨hzo, hzb.miss hsym hi (List.getElem?_eq_getElem hgl2) (.inr he'), hi, hgl2⟩, by simp only; omega, .since hnz hw (.refl _) (by simp [frOk, AV.okR, AV.ok1, AC.okR, AV.ren, AV.ren1, AC.ren, AFrame.get, pl1_old, *]; first | done | rfl | omega)⟩⟩
          · obtain rfl : i = ps.length := by omega
            simp (config := {contextual := true, implicitDefEqProofs := false, maxSteps := 2000000}) [-Int.not_le, -Int.not_lt, argsF, impl_sightingGroups_l0, w2]
            exact ⟨fun hw => ⟨(z, g + 1), ⟨hzo, hzb.next⟩, by have := hzb.len; simp only; omega, .since hnz hw (.refl _) (by simp [frOk, AV.okR, AV.ok1, AC.okR, AV.ren, AV.ren1, AC.ren, AFrame.get, pl1_old, *]; first | done | rfl | omega)⟩⟩
        · have hgi : ((g : Int) < (y.L.length : Int)) = False := eq_false (by omega)
          have hpos : 0 < y.L.length := List.length_pos_of_mem hbf.mem
          have hL6 : y.L.length ≤ 1000000 := by omega
          have hgn : y.H.b x.bg = some (gsK x.cs x.gs) := hyo.ok.gn
          have hgl : x.cs.length = x.gs.length := hyo.ok.len
          have hgk : x.gs.length ≤ k := by rw [hgs]; exact groupsTo_len _ _ _
          have r1 : (x.bg = y.H.n) = False := eq_false (by omega)
          have r2 : (x.bg = y.H.n + 1) = False := eq_false (by omega)
          have r3 : (x.bg = y.b) = False := eq_false (fun e => hyo.n2 e.symm)
          have r4 : (y.b = x.bg) = False := eq_false hyo.n2
          have r5 : (y.b = y.H.n) = False := eq_false (by omega)
          simp (config := {contextual := true, implicitDefEqProofs := false, maxSteps := 2000000}) [-Int.not_le, -Int.not_lt, argsF, impl_sightingGroups_l1, hgi, hyo.row, hpos, hL6, hgn, w1, r1, r2, r3, r4, r5, hgl]
          obtain ⟨f1, f2⟩ := hbf.fin hg
          obtain ⟨f3, f4⟩ := sort_nats hbf.nd f1
          rw [f3, gsK_add hgl f4]
          refine ⟨by omega, by omega, ⟨fun hw => ⟨(⟨_, x.bs, y.seen, y.H.n + 1, x.cs ++ [y.b], x.gs ++ [comp (edge ps limit) ps.length k]⟩, k + 1), ⟨GX.last hwf hyo hwy' _ _, hk, f2, by rw [groupsTo_yes hbf.lead, ← hgs]⟩, by simp only; omega, .since (by simp only [push_n, kill_n, set_n]; omega) hw (.refl _) (by simp [frOk, AV.okR, AV.ok1, AC.okR, AV.ren, AV.ren1, AC.ren, AFrame.get, pl1_old, *]; first | done | rfl | omega)⟩⟩⟩

end Go.Proofs.YtafenginfojcmaaGreatDoor
set_option maxRecDepth 8000
set_option linter.unusedSimpArgs false
set_option linter.unusedVariables false
namespace Go.Proofs.YtafenginfojcmaaGreatDoor
open Go Go.RowKit

set_option maxHeartbeats 4000000
theorem eII_at {H : AHeap} {e : List AC} {l : List Int} (h : eII.dec H e = some l) : ∃ b i k, e = [.sl b i l.length] ∧ eI.At H b i k l := by
  simp only [eII] at h
  split at h
  · obtain ⟨b, i, k, rfl, h2⟩ := rdI_at h
    exact ⟨b, i, k, rfl, h2⟩
  · cases h
theorem groups_find {e : Nat → Nat → Bool} {n m : Nat} (hm : m < n) : ∃ g ∈ groupsTo e n n, m ∈ g := by
  have hx : ∃ j, j ≤ m ∧ Rch e n j m := ⟨m, Nat.le_refl _, .refl hm⟩
  have : ∀ j, Rch e n j m → ∃ i, i ≤ j ∧ Rch e n i m ∧ leads e n i := by
    intro j
    induction j using Nat.strongRecOn with
    | _ j ih =>
      intro hj
      by_cases hl : leads e n j
      · exact ⟨j, Nat.le_refl _, hj, hl⟩
      · simp only [leads, Classical.not_forall, Classical.not_not] at hl
        obtain ⟨i, hi, hr⟩ := hl
        obtain ⟨i', h1, h2, h3⟩ := ih i hi (hr.trans hj)
        exact ⟨i', by omega, h2, h3⟩
  obtain ⟨j, _, hj⟩ := hx
  obtain ⟨i, _, hr, hl⟩ := this j hj
  refine ⟨comp e n i, ?_, mem_comp.2 hr⟩
  unfold groupsTo
  exact List.mem_map.2 ⟨i, List.mem_filter.2 ⟨List.mem_range.2 hr.start, leadB_t.2 hl⟩, rfl⟩
theorem groups_same {e : Nat → Nat → Bool} {n m : Nat} (hs : ∀ x k, x < n → k < n → e x k = true → e k x = true) {g : List Nat} (hg : g ∈ groupsTo e n n) (hm : m ∈ g) : g = comp e n m := by
  unfold groupsTo at hg
  obtain ⟨i, _, rfl⟩ := List.mem_map.1 hg
  exact comp_same hs (mem_comp.1 hm)

def q_gw : Con := fun args H K => match args with
  | [ps_v, .c (.int .i64 limit), .c (.int .i64 id)] => eSi.rd H (fun ps => 0 ≤ ixOf (fun s : Si => decide (s.id = id)) ps 0 ∧ ps.length ≤ 10 ∧ (∀ p ∈ ps, p.traits.length ≤ 1048576) ∧ (∀ x k, x < ps.length → k < ps.length → edge ps limit x k = true → edge ps limit k x = true) ∧ Stop (∀ H' b o k, H'.WF → Sub H H' → eI.At H' b o k (nats (comp (edge ps limit) ps.length (ixOf (fun s : Si => decide (s.id = id)) ps 0).toNat)) → K (.c (.sl (b) (o) ((comp (edge ps limit) ps.length (ixOf (fun s : Si => decide (s.id = id)) ps 0).toNat).length))) H') ()) ps_v
  | _ => False
@[simp ↓] theorem q_gw_eq (ps_v : AV) (limit : Int) (id : Int) (H : AHeap) (K : AV → AHeap → Prop) : q_gw [ps_v, .c (.int .i64 limit), .c (.int .i64 id)] H K = (eSi.rd H (fun ps => 0 ≤ ixOf (fun s : Si => decide (s.id = id)) ps 0 ∧ ps.length ≤ 10 ∧ (∀ p ∈ ps, p.traits.length ≤ 1048576) ∧ (∀ x k, x < ps.length → k < ps.length → edge ps limit x k = true → edge ps limit k x = true) ∧ Stop (∀ H' b o k, H'.WF → Sub H H' → eI.At H' b o k (nats (comp (edge ps limit) ps.length (ixOf (fun s : Si => decide (s.id = id)) ps 0).toNat)) → K (.c (.sl (b) (o) ((comp (edge ps limit) ps.length (ixOf (fun s : Si => decide (s.id = id)) ps 0).toNat).length))) H') ()) ps_v) := rfl

theorem impl_groupWith_s : Sound Tryz.prog 44 q_gw := by
  intro args H K h
  unfold q_gw at h
  split at h
  rotate_left
  all_goals first | exact False.elim h | skip
  rename_i ps_v limit id
  have h1 := EncH.rd_at h
  clear h
  obtain ⟨b_ps, i_ps, k_ps, ps, rfl, hat_ps, h⟩ := h1
  have hE := soundE_cons impl_sightingAt_s (soundE_cons impl_sightingGroups_s (soundE_cons slices_Contains___int_int_s (soundE_nil (P := Tryz.prog))))
  refine acalls_fn impl_groupWith_k hE ⟨by simp, fun hwf => ?_⟩
  obtain ⟨hsr, hsp, hst, hss, hsk⟩ := hs_of hwf
  have hon_ps := hat_ps.on
  have hb_ps : b_ps < H.n := (hwf b_ps k_ps hat_ps.blk).1
  have hne_ps : (b_ps = H.n) = False := eq_false (by omega)
  have hne1_ps : ∀ i, (b_ps = H.n + i) = False := fun i => eq_false (by omega)
  have hne2_ps := ne2_of (a := b_ps) (b := H.n) (by omega)
  have hmx_ps : ps.length ≤ 9223372036854775807 := by have h1 := (hwf b_ps k_ps hat_ps.blk).2.2; have h2 := hat_ps.len; omega
  obtain ⟨hi0, hl, hl2, hsym, h⟩ := h
  rcases ixOf_find (fun s : Si => decide (s.id = id)) ps with ⟨e1, _⟩ | ⟨m, hm, e1, _⟩
  · rw [e1] at hi0; omega
  rw [e1] at h
  simp only [Int.toNat_natCast] at h
  simp (config := {contextual := true, implicitDefEqProofs := false, maxSteps := 2000000}) [-Int.not_le, -Int.not_lt, argsF, impl_groupWith_c, hat_ps.blk, hat_ps.esz, hat_ps.len, hon_ps, hne_ps, hne1_ps, hne2_ps, hsr, hsp, hst, hss, hsk, e1, hl, hl2, hsym]
  refine Stop.mk fun H1 b1 k1 hw1 hs1 hat1 => ?_
  have hn1 : H.n ≤ H1.n := hs1.1.1
  have hb1 : b1 < H1.n := (hw1 _ _ hat1.blk).1
  have hgl := groupsTo_len (edge ps limit) ps.length ps.length
  generalize hgs : groupsTo (edge ps limit) ps.length ps.length = gs at hat1 hgl
  simp (config := {contextual := true, implicitDefEqProofs := false, maxSteps := 2000000}) [-Int.not_le, -Int.not_lt, argsF, hat1.blk, hat1.esz, hgs, e1]
  refine aloop_list gs (fun j _ => [(7, .c (.int .i64 ((m : Int)))), (15, .c (.sl (b1) (0) (gs.length))), (16, .c (.int .i64 gs.length)), (17, .c (.int .i64 (j)))]) (fun j _ => H1) (fun j l _ => ∃ g ∈ l, m ∈ g) hE _ () (by rw [← hgs]; exact groups_find hm) (.since hn1 hw1 (.refl _) (by simp [frOk, AV.okR, AV.ok1, AC.okR, AV.ren, AV.ren1, AC.ren, AFrame.get, pl1_old, *]; first | done | rfl | omega)) (fun j _ hlt hi => ?_) fun _ hi => ?_
  · have hj1 := idx_lt hlt
    have w1 : IntKind.i64.wrap ((j : Int) + 1) = (j : Int) + 1 := wrap_id (by omega) (by omega)
    obtain ⟨ex, ee, hd⟩ := hat1.get (j := j) (by simpa using hlt)
    rw [Nat.zero_add] at ee
    rw [List.getElem_map] at hd
    obtain ⟨c, o, kc, rfl, hatc⟩ := eII_at hd
    have hcl := hatc.len
    have hce := hatc.els
    rw [nats_len] at ee hcl hce
    have hcb : c < H1.n := (hw1 _ _ hatc.blk).1
    by_cases hmg : m ∈ gs[j]
    · have hmc : ((m : Int) ∈ nats gs[j]) = True := eq_true (nats_mem.2 hmg)
      simp (config := {contextual := true, implicitDefEqProofs := false, maxSteps := 2000000}) [-Int.not_le, -Int.not_lt, argsF, impl_groupWith_l0, hj1, hlt, hat1.blk, hat1.esz, ee, hatc.blk, hatc.esz, hcl, hce, hmc]
      have hgc := groups_same hsym (by rw [hgs]; exact List.getElem_mem hlt) hmg
      rw [← hgc] at h
      exact Out.whole hn1 (by simp [frOk, AV.okR, AV.ok1, AC.okR, AV.ren, AV.ren1, AC.ren, AFrame.get, pl1_old, *]; first | done | rfl | omega) fun hw => Stop.go h H1 c o kc hw hs1 hatc
    · have hmc : ((m : Int) ∈ nats gs[j]) = False := eq_false fun h => hmg (nats_mem.1 h)
      simp (config := {contextual := true, implicitDefEqProofs := false, maxSteps := 2000000}) [-Int.not_le, -Int.not_lt, argsF, impl_groupWith_l0, hj1, hlt, hat1.blk, hat1.esz, ee, hatc.blk, hatc.esz, hcl, hce, hmc, w1]
      obtain ⟨g, hg, hm2⟩ := hi
      rcases List.mem_cons.1 hg with rfl | hg
      · exact absurd hm2 hmg
      · exact ⟨(), ⟨g, hg, hm2⟩, .since hn1 hw1 (.refl _) (by simp [frOk, AV.okR, AV.ok1, AC.okR, AV.ren, AV.ren1, AC.ren, AFrame.get, pl1_old, *]; first | done | rfl | omega)⟩
  · obtain ⟨g, hg, _⟩ := hi
    cases hg

end Go.Proofs.YtafenginfojcmaaGreatDoor
set_option maxRecDepth 8000
set_option linter.unusedSimpArgs false
set_option linter.unusedVariables false
namespace Go.Proofs.YtafenginfojcmaaGreatDoor
open Go Go.RowKit

set_option maxHeartbeats 4000000
theorem evGo_f (t : List Int) : ∀ (l : List Int) (n : Nat), evGo t l n = n + (l.filter fun x => t.contains x).length
  | [], n => rfl
  | x :: r, n => by
    simp only [evGo, List.filter_cons]
    split
    · rw [evGo_f t r]; simp; omega
    · rw [evGo_f t r]
theorem evGo_comm {s t : List Int} (hs : s.Nodup) (ht : t.Nodup) : evGo t s 0 = evGo s t 0 := by
  rw [evGo_f, evGo_f]
  have : (s.filter fun x => t.contains x).Perm (t.filter fun x => s.contains x) := (List.perm_ext_iff_of_nodup (hs.filter _) (ht.filter _)).2 fun x => by
    simp only [List.mem_filter, List.contains_eq_mem, decide_eq_true_eq]
    exact And.comm
  rw [this.length_eq]
theorem evid_comm {s t : Si} (hs : s.traits.Nodup) (ht : t.traits.Nodup) : evid s t = evid t s := by
  unfold evid
  rw [evGo_comm hs ht]
  have : (if s.town = t.town then (0 : Int) else 10) = if t.town = s.town then 0 else 10 := by simp only [eq_comm]
  rw [this]
  omega
theorem edge_sym {ps : List Si} {limit : Int} (h : ∀ p ∈ ps, p.traits.Nodup) : ∀ x k, x < ps.length → k < ps.length → edge ps limit x k = true → edge ps limit k x = true := fun x k hx hk he => by
  simp only [edge, List.getD_eq_getElem?_getD, List.getElem?_eq_getElem hx, List.getElem?_eq_getElem hk, Option.getD_some] at he ⊢
  rw [evid_comm (h _ (List.getElem_mem hk)) (h _ (List.getElem_mem hx))]
  exact he
theorem risGo_lt (lo hi : Int) : ∀ (l : List Int) (o : Option Int), risGo lo hi o l = true → l.Pairwise (· < ·) ∧ ∀ p, o = some p → ∀ x ∈ l, p < x
  | [], _, _ => ⟨.nil, fun _ _ x hx => by cases hx⟩
  | x :: r, o, h => by
    simp only [risGo, Bool.if_false_right, Bool.and_eq_true, decide_eq_true_eq] at h
    obtain ⟨_, h1, h2⟩ := h
    obtain ⟨h3, h4⟩ := risGo_lt lo hi r (some x) h2
    refine ⟨List.pairwise_cons.2 ⟨fun y hy => h4 x rfl y hy, h3⟩, fun p hp y hy => ?_⟩
    subst hp
    have h5 : p < x := by simpa using h1
    rcases List.mem_cons.1 hy with rfl | hy
    · exact h5
    · have := h4 x rfl y hy; omega
theorem areSi_nd {ps : List Si} (h : areSi ps = true) : ∀ p ∈ ps, p.traits.Nodup := fun p hp => by
  unfold areSi at h
  simp only [Bool.and_eq_true] at h
  have h1 := siGo_all ps none h.1 p hp
  unfold isSi at h1
  simp only [Bool.and_eq_true] at h1
  exact (risGo_lt 1 50 _ none h1.2.2.2.2).1.imp fun {a b} h => by omega
/-- the first place below f + d, from d on, where P holds; else f + d -/
def glGo (P : Nat → Bool) : Nat → Nat → Nat
  | 0, d => d
  | f + 1, d => if P d = true then d else glGo P f (d + 1)
theorem glGo_hit {P : Nat → Bool} {d : Nat} (h : P d = true) : ∀ f, glGo P f d = d
  | 0 => rfl
  | f + 1 => by rw [glGo, if_pos h]
theorem glGo_miss {P : Nat → Bool} {d : Nat} (h : P d = false) (hd : d < 46) : glGo P (46 - d) d = glGo P (46 - (d + 1)) (d + 1) := by
  rw [show 46 - d = (46 - (d + 1)) + 1 by omega, glGo, if_neg (by simp [h])]
noncomputable def glP (ps : List Si) (ia ib : Nat) (d : Nat) : Bool := decide (ib ∈ comp (edge ps (16 - (d : Int))) ps.length ia)
theorem glP_last {ps : List Si} (h : areSi ps = true) {ia ib : Nat} (ha : ia < ps.length) (hb : ib < ps.length) : glP ps ia ib 46 = true := by
  refine decide_eq_true (mem_comp.2 ((Rch.refl ha).step hb ?_))
  have h1 := areSi_b h _ (List.getElem_mem ha)
  have h2 := areSi_b h _ (List.getElem_mem hb)
  simp only [edge, List.getD_eq_getElem?_getD, List.getElem?_eq_getElem ha, List.getElem?_eq_getElem hb, Option.getD_some, decide_eq_true_eq]
  unfold evid
  split <;> omega
noncomputable def glRes (ps : List Si) (a b : Int) : Int × Bool :=
  if areSi ps = true then if ixOf (fun s : Si => decide (s.id = a)) ps 0 < 0 then (0, false) else if ixOf (fun s : Si => decide (s.id = b)) ps 0 < 0 then (0, false)
    else if ixOf (fun s : Si => decide (s.id = a)) ps 0 = ixOf (fun s : Si => decide (s.id = b)) ps 0 then (0, false)
    else (16 - (glGo (glP ps (ixOf (fun s : Si => decide (s.id = a)) ps 0).toNat (ixOf (fun s : Si => decide (s.id = b)) ps 0).toNat) 46 0 : Int), true)
  else (0, false)

def q_gl : Con := fun args H K => match args with
  | [ps_v, .c (.int .i64 a), .c (.int .i64 b)] => eSi.rd H (fun ps => (∀ p ∈ ps, p.traits.length ≤ 1048576) ∧ K (.tup [.c (.int .i64 ((glRes ps a b).1)), .c (.bool ((glRes ps a b).2))]) H) ps_v
  | _ => False
@[simp ↓] theorem q_gl_eq (ps_v : AV) (a : Int) (b : Int) (H : AHeap) (K : AV → AHeap → Prop) : q_gl [ps_v, .c (.int .i64 a), .c (.int .i64 b)] H K = (eSi.rd H (fun ps => (∀ p ∈ ps, p.traits.length ≤ 1048576) ∧ K (.tup [.c (.int .i64 ((glRes ps a b).1)), .c (.bool ((glRes ps a b).2))]) H) ps_v) := rfl

end Go.Proofs.YtafenginfojcmaaGreatDoor
set_option maxRecDepth 8000
set_option linter.unusedSimpArgs false
set_option linter.unusedVariables false
namespace Go.Proofs.YtafenginfojcmaaGreatDoor
open Go Go.RowKit

set_option maxHeartbeats 4000000
def yr (ps : List Si) (k : Nat) : Int := (ps.getD k default).year
def yMin (ps : List Si) : List Nat → Int → Int
  | [], m => m
  | k :: r, m => yMin ps r (if yr ps k < m then yr ps k else m)
def yMax (ps : List Si) : List Nat → Int → Int
  | [], m => m
  | k :: r, m => yMax ps r (if m < yr ps k then yr ps k else m)
theorem yMin_le (ps : List Si) : ∀ (L : List Nat) (m : Int), yMin ps L m ≤ m
  | [], m => Int.le_refl _
  | k :: r, m => by
    simp only [yMin]
    have := yMin_le ps r (if yr ps k < m then yr ps k else m)
    split at this <;> split <;> omega
theorem yMin_eq (ps : List Si) : ∀ (L : List Nat) (a b : Int), a ≤ b → yMin ps L a = min a (yMin ps L b)
  | [], a, b, h => by simp only [yMin]; omega
  | k :: r, a, b, h => by
    simp only [yMin]
    have h1 := yMin_eq ps r (if yr ps k < a then yr ps k else a) (if yr ps k < b then yr ps k else b) (by split <;> split <;> omega)
    have h2 := yMin_le ps r (if yr ps k < b then yr ps k else b)
    rw [h1]
    generalize yMin ps r (if yr ps k < b then yr ps k else b) = X at h2 ⊢
    split at h2 <;> split <;> omega
theorem yMin_mem (ps : List Si) : ∀ (L : List Nat) (m : Int) (k : Nat), k ∈ L → yMin ps L m ≤ yr ps k
  | x :: r, m, k, h => by
    simp only [yMin]
    rcases List.mem_cons.1 h with rfl | h
    · have := yMin_le ps r (if yr ps k < m then yr ps k else m)
      split at this <;> split <;> omega
    · exact yMin_mem ps r _ k h
theorem yMax_ge (ps : List Si) : ∀ (L : List Nat) (m : Int), m ≤ yMax ps L m
  | [], m => Int.le_refl _
  | k :: r, m => by
    simp only [yMax]
    have := yMax_ge ps r (if m < yr ps k then yr ps k else m)
    split at this <;> split <;> omega
theorem yMax_eq (ps : List Si) : ∀ (L : List Nat) (a b : Int), b ≤ a → yMax ps L a = max a (yMax ps L b)
  | [], a, b, h => by simp only [yMax]; omega
  | k :: r, a, b, h => by
    simp only [yMax]
    have h1 := yMax_eq ps r (if a < yr ps k then yr ps k else a) (if b < yr ps k then yr ps k else b) (by split <;> split <;> omega)
    have h2 := yMax_ge ps r (if b < yr ps k then yr ps k else b)
    rw [h1]
    generalize yMax ps r (if b < yr ps k then yr ps k else b) = X at h2 ⊢
    split at h2 <;> split <;> omega
theorem yMax_mem (ps : List Si) : ∀ (L : List Nat) (m : Int) (k : Nat), k ∈ L → yr ps k ≤ yMax ps L m
  | x :: r, m, k, h => by
    simp only [yMax]
    rcases List.mem_cons.1 h with rfl | h
    · have := yMax_ge ps r (if m < yr ps k then yr ps k else m)
      split at this <;> split <;> omega
    · exact yMax_mem ps r _ k h
/-- from the year of one of them, or from the bounds: the same -/
theorem years_from {ps : List Si} {L : List Nat} {k : Nat} (hk : k ∈ L) (h1 : 1840 ≤ yr ps k) (h2 : yr ps k ≤ 2100) : yMin ps L (yr ps k) = yMin ps L 2100 ∧ yMax ps L (yr ps k) = yMax ps L 1840 := by
  have a1 := yMin_eq ps L (yr ps k) 2100 h2
  have a2 := yMin_mem ps L 2100 k hk
  have b1 := yMax_eq ps L (yr ps k) 1840 h1
  have b2 := yMax_mem ps L 1840 k hk
  omega
noncomputable def ysRes (ps : List Si) (limit id : Int) : Int × Int × Bool := if areSi ps = true then if inR limit (-30) 16 = true then if ixOf (fun s : Si => decide (s.id = id)) ps 0 < 0 then (0, 0, false)
  else (yMin ps (comp (edge ps limit) ps.length (ixOf (fun s : Si => decide (s.id = id)) ps 0).toNat) 2100, yMax ps (comp (edge ps limit) ps.length (ixOf (fun s : Si => decide (s.id = id)) ps 0).toNat) 1840, true)
  else (0, 0, false) else (0, 0, false)

def q_le2 : Con := fun args H K => match args with
  | [.c (.int .i64 a), .c (.int .i64 b)] => K (.c (.int .i64 (if b < a then b else a))) H
  | _ => False
@[simp ↓] theorem q_le2_eq (a : Int) (b : Int) (H : AHeap) (K : AV → AHeap → Prop) : q_le2 [.c (.int .i64 a), .c (.int .i64 b)] H K = (K (.c (.int .i64 (if b < a then b else a))) H) := rfl

theorem spec_l1Least_s : Sound Tryz.prog 49 q_le2 := by
  intro args H K h
  unfold q_le2 at h
  split at h
  rotate_left
  all_goals first | exact False.elim h | skip
  rename_i a b
  have hE := soundE_nil (P := Tryz.prog)
  refine acalls_fn spec_l1Least_k hE ⟨by simp, fun hwf => ?_⟩
  simp (config := {contextual := true, implicitDefEqProofs := false, maxSteps := 60000}) [-Int.not_le, -Int.not_lt, argsF, spec_l1Least_c]
  by_cases h1 : a < b
  · rw [if_pos h1]
    rw [if_neg (by omega)] at h
    (refine Out.plain hwf ?_ rfl ?_; (repeat first | exact Sub.refl _ | refine Sub.push hwf ?_ _ | refine Sub.set hwf ?_ (by first | exact Nat.le_refl _ | omega | (simp only [push_n, set_n, kill_n]; omega)) _ | refine Sub.kill hwf ?_ (by first | exact Nat.le_refl _ | omega | (simp only [push_n, set_n, kill_n]; omega)))); exact h
  · rw [if_neg h1]
    have e : (if b < a then b else a) = b := by split <;> omega
    rw [e] at h
    (refine Out.plain hwf ?_ rfl ?_; (repeat first | exact Sub.refl _ | refine Sub.push hwf ?_ _ | refine Sub.set hwf ?_ (by first | exact Nat.le_refl _ | omega | (simp only [push_n, set_n, kill_n]; omega)) _ | refine Sub.kill hwf ?_ (by first | exact Nat.le_refl _ | omega | (simp only [push_n, set_n, kill_n]; omega)))); exact h

def q_mo2 : Con := fun args H K => match args with
  | [.c (.int .i64 a), .c (.int .i64 b)] => K (.c (.int .i64 (if a < b then b else a))) H
  | _ => False
@[simp ↓] theorem q_mo2_eq (a : Int) (b : Int) (H : AHeap) (K : AV → AHeap → Prop) : q_mo2 [.c (.int .i64 a), .c (.int .i64 b)] H K = (K (.c (.int .i64 (if a < b then b else a))) H) := rfl

theorem spec_l1Most_s : Sound Tryz.prog 50 q_mo2 := by
  intro args H K h
  unfold q_mo2 at h
  split at h
  rotate_left
  all_goals first | exact False.elim h | skip
  rename_i a b
  have hE := soundE_nil (P := Tryz.prog)
  refine acalls_fn spec_l1Most_k hE ⟨by simp, fun hwf => ?_⟩
  simp (config := {contextual := true, implicitDefEqProofs := false, maxSteps := 60000}) [-Int.not_le, -Int.not_lt, argsF, spec_l1Most_c]
  by_cases h1 : b < a
  · rw [if_pos h1]
    rw [if_neg (by omega)] at h
    (refine Out.plain hwf ?_ rfl ?_; (repeat first | exact Sub.refl _ | refine Sub.push hwf ?_ _ | refine Sub.set hwf ?_ (by first | exact Nat.le_refl _ | omega | (simp only [push_n, set_n, kill_n]; omega)) _ | refine Sub.kill hwf ?_ (by first | exact Nat.le_refl _ | omega | (simp only [push_n, set_n, kill_n]; omega)))); exact h
  · rw [if_neg h1]
    have e : (if a < b then b else a) = b := by split <;> omega
    rw [e] at h
    (refine Out.plain hwf ?_ rfl ?_; (repeat first | exact Sub.refl _ | refine Sub.push hwf ?_ _ | refine Sub.set hwf ?_ (by first | exact Nat.le_refl _ | omega | (simp only [push_n, set_n, kill_n]; omega)) _ | refine Sub.kill hwf ?_ (by first | exact Nat.le_refl _ | omega | (simp only [push_n, set_n, kill_n]; omega)))); exact h

def q_ys : Con := fun args H K => match args with
  | [ps_v, .c (.int .i64 limit), .c (.int .i64 id)] => eSi.rd H (fun ps => (∀ p ∈ ps, p.traits.length ≤ 1048576) ∧ K (.tup [.c (.int .i64 ((ysRes ps limit id).1)), .c (.int .i64 ((ysRes ps limit id).2.1)), .c (.bool ((ysRes ps limit id).2.2))]) H) ps_v
  | _ => False
@[simp ↓] theorem q_ys_eq (ps_v : AV) (limit : Int) (id : Int) (H : AHeap) (K : AV → AHeap → Prop) : q_ys [ps_v, .c (.int .i64 limit), .c (.int .i64 id)] H K = (eSi.rd H (fun ps => (∀ p ∈ ps, p.traits.length ≤ 1048576) ∧ K (.tup [.c (.int .i64 ((ysRes ps limit id).1)), .c (.int .i64 ((ysRes ps limit id).2.1)), .c (.bool ((ysRes ps limit id).2.2))]) H) ps_v) := rfl

theorem impl_YearsSeen_s : Sound Tryz.prog 17 q_ys := by
  intro args H K h
  unfold q_ys at h
  split at h
  rotate_left
  all_goals first | exact False.elim h | skip
  rename_i ps_v limit id
  have h1 := EncH.rd_at h
  clear h
  obtain ⟨b_ps, i_ps, k_ps, ps, rfl, hat_ps, h⟩ := h1
  have hE := soundE_cons impl_areSightings_s (soundE_cons impl_inRange_s (soundE_cons impl_sightingAt_s (soundE_cons impl_groupWith_s (soundE_nil (P := Tryz.prog)))))
  refine acalls_fn impl_YearsSeen_k hE ⟨by simp, fun hwf => ?_⟩
  obtain ⟨hsr, hsp, hst, hss, hsk⟩ := hs_of hwf
  have hon_ps := hat_ps.on
  have hb_ps : b_ps < H.n := (hwf b_ps k_ps hat_ps.blk).1
  have hne_ps : (b_ps = H.n) = False := eq_false (by omega)
  have hne1_ps : ∀ i, (b_ps = H.n + i) = False := fun i => eq_false (by omega)
  have hne2_ps := ne2_of (a := b_ps) (b := H.n) (by omega)
  have hmx_ps : ps.length ≤ 9223372036854775807 := by have h1 := (hwf b_ps k_ps hat_ps.blk).2.2; have h2 := hat_ps.len; omega
  obtain ⟨hl, h⟩ := h
  unfold ysRes at h
  by_cases hv : areSi ps = true
  rotate_left
  · simp (config := {contextual := true, implicitDefEqProofs := false, maxSteps := 2000000}) [-Int.not_le, -Int.not_lt, argsF, impl_YearsSeen_c, hat_ps.blk, hat_ps.esz, hat_ps.len, hon_ps, hne_ps, hne1_ps, hne2_ps, hsr, hsp, hst, hss, hsk, hv]
    simp only [hv, if_false, reduceCtorEq] at h
    (refine Out.plain hwf ?_ rfl ?_; (repeat first | exact Sub.refl _ | refine Sub.push hwf ?_ _ | refine Sub.set hwf ?_ (by first | exact Nat.le_refl _ | omega | (simp only [push_n, set_n, kill_n]; omega)) _ | refine Sub.kill hwf ?_ (by first | exact Nat.le_refl _ | omega | (simp only [push_n, set_n, kill_n]; omega)))); exact h
  simp only [hv, if_true] at h
  by_cases hr : inR limit (-30) 16 = true
  rotate_left
  · simp (config := {contextual := true, implicitDefEqProofs := false, maxSteps := 2000000}) [-Int.not_le, -Int.not_lt, argsF, impl_YearsSeen_c, hat_ps.blk, hat_ps.esz, hat_ps.len, hon_ps, hne_ps, hne1_ps, hne2_ps, hsr, hsp, hst, hss, hsk, hv, hr]
    simp only [hr, if_false, reduceCtorEq] at h
    (refine Out.plain hwf ?_ rfl ?_; (repeat first | exact Sub.refl _ | refine Sub.push hwf ?_ _ | refine Sub.set hwf ?_ (by first | exact Nat.le_refl _ | omega | (simp only [push_n, set_n, kill_n]; omega)) _ | refine Sub.kill hwf ?_ (by first | exact Nat.le_refl _ | omega | (simp only [push_n, set_n, kill_n]; omega)))); exact h
  simp only [hr, if_true] at h
  rcases ixOf_find (fun s : Si => decide (s.id = id)) ps with ⟨e1, _⟩ | ⟨m, hm, e1, _⟩
  · rw [e1] at h
    simp (config := {contextual := true, implicitDefEqProofs := false, maxSteps := 2000000}) [-Int.not_le, -Int.not_lt, argsF, impl_YearsSeen_c, hat_ps.blk, hat_ps.esz, hat_ps.len, hon_ps, hne_ps, hne1_ps, hne2_ps, hsr, hsp, hst, hss, hsk, hv, hr, e1]
    simp only [show ((-1 : Int) < 0) = True from eq_true (by omega), if_true] at h
    (refine Out.plain hwf ?_ rfl ?_; (repeat first | exact Sub.refl _ | refine Sub.push hwf ?_ _ | refine Sub.set hwf ?_ (by first | exact Nat.le_refl _ | omega | (simp only [push_n, set_n, kill_n]; omega)) _ | refine Sub.kill hwf ?_ (by first | exact Nat.le_refl _ | omega | (simp only [push_n, set_n, kill_n]; omega)))); exact h
  have hm0 : ((m : Int) < 0) = False := eq_false (by omega)
  have hm1 : (0 ≤ (m : Int)) = True := eq_true (by omega)
  rw [e1] at h
  simp only [hm0, if_false, Int.toNat_natCast] at h
  have hsym := edge_sym (limit := limit) (areSi_nd hv)
  have hpl := areSi_len hv
  simp (config := {contextual := true, implicitDefEqProofs := false, maxSteps := 2000000}) [-Int.not_le, -Int.not_lt, argsF, impl_YearsSeen_c, hat_ps.blk, hat_ps.esz, hat_ps.len, hon_ps, hne_ps, hne1_ps, hne2_ps, hsr, hsp, hst, hss, hsk, hv, hr, e1, hm0, hm1, hpl, hl, hsym]
  refine Stop.mk fun H1 b1 o1 k1 hw1 hs1 hat1 => ?_
  simp only [e1, Int.toNat_natCast] at hat1
  have hn1 : H.n ≤ H1.n := hs1.1.1
  have hb1 : b1 < H1.n := (hw1 _ _ hat1.blk).1
  have hall : ∀ x ∈ comp (edge ps limit) ps.length m, x < ps.length := fun x hx => (mem_comp.1 hx).lt
  have hcl : (comp (edge ps limit) ps.length m).length ≤ ps.length := nodup_len _ _ (comp_up.imp fun {a b} h => by omega) hall
  generalize hL : comp (edge ps limit) ps.length m = L at h hat1 hall hcl
  simp (config := {contextual := true, implicitDefEqProofs := false, maxSteps := 2000000}) [-Int.not_le, -Int.not_lt, argsF, e1, hL]
  refine aloop_list2 L (fun j (mn mx : Int) => [(0, .c (.sl b_ps i_ps ps.length)), (9, .c (.int .i64 (mn))), (10, .c (.int .i64 (mx))), (30, .c (.sl (b1) (o1) (L.length))), (31, .c (.int .i64 L.length)), (32, .c (.int .i64 (j)))]) (fun j _ _ => H1) (fun j l mn mx => yMin ps l mn = yMin ps L 2100 ∧ yMax ps l mx = yMax ps L 1840) hE _ 2100 1840 ⟨rfl, rfl⟩ (.since hn1 hw1 (.refl _) (by simp [frOk, AV.okR, AV.ok1, AC.okR, AV.ren, AV.ren1, AC.ren, AFrame.get, pl1_old, *]; first | done | rfl | omega)) (fun j mn mx hlt hi => ?_) fun mn mx hi => ?_
  · obtain ⟨hi1, hi2⟩ := hi
    have hLj := hall _ (List.getElem_mem hlt)
    have hj1 := idx_lt hlt
    have w1 : IntKind.i64.wrap ((j : Int) + 1) = (j : Int) + 1 := wrap_id (by omega) (by omega)
    have hat_ps : eSi.At H1 b_ps i_ps k_ps ps := hat_ps.sub hs1
    have hwf0 := hwf
    have hwf := hw1
    obtain ⟨ex_u, e_u, hd_u⟩ := hat_ps.get hLj
    obtain ⟨b_u, i_u, k_u, rfl, hat_u, htx_u⟩ := eSi_at hd_u
    have hb_u : b_u < H1.n := (hwf b_u k_u hat_u.blk).1
    have hne_u : (b_u = H1.n) = False := eq_false (by omega)
    have hne1_u : ∀ i, (b_u = H1.n + i) = False := fun i => eq_false (by omega)
    have hne2_u := ne2_of (a := b_u) (b := H1.n) (by omega)
    have er := hat1.get (j := j) (by rw [nats_len]; exact hlt)
    rw [show (nats L)[j]'(by rw [nats_len]; exact hlt) = (L[j] : Int) by simp [nats]] at er
    have hLi : ((L[j] : Int) < (ps.length : Int)) = True := eq_true (by omega)
    have hyr : yr ps L[j] = ps[L[j]].year := by simp [yr, List.getD_eq_getElem?_getD, hLj]
    simp only [yMin, yMax, hyr] at hi1 hi2
    simp (config := {contextual := true, implicitDefEqProofs := false, maxSteps := 2000000}) [-Int.not_le, -Int.not_lt, argsF, impl_YearsSeen_l0, hj1, w1, hat1.blk, hat1.esz, er, hlt, hLi, hLj, hat_ps.blk, hat_ps.esz, hat_ps.len, hon_ps, hne_ps, hne1_ps, hne2_ps, e_u, htx_u, hat_u.blk, hat_u.esz, hat_u.len, hat_u.els, hne_u, hne1_u, hne2_u]
    exact ⟨_, _, ⟨hi1, hi2⟩, .since hn1 hw1 (.refl _) (by simp [frOk, AV.okR, AV.ok1, AC.okR, AV.ren, AV.ren1, AC.ren, AFrame.get, pl1_old, *]; first | done | rfl | omega)⟩
  · obtain ⟨hi1, hi2⟩ := hi
    simp only [yMin, yMax] at hi1 hi2
    simp (config := {contextual := true, implicitDefEqProofs := false, maxSteps := 2000000}) [-Int.not_le, -Int.not_lt, argsF, impl_YearsSeen_l0]
    rw [← hi1, ← hi2] at h
    refine Out.plain (hwf) hs1 rfl ?_
    exact h

theorem spec_YearsSeen_s : Sound Tryz.prog 18 q_ys := by
  intro args H K h
  unfold q_ys at h
  split at h
  rotate_left
  all_goals first | exact False.elim h | skip
  rename_i ps_v limit id
  have h1 := EncH.rd_at h
  clear h
  obtain ⟨b_ps, i_ps, k_ps, ps, rfl, hat_ps, h⟩ := h1
  have hE := soundE_cons spec_l13Find_s (soundE_cons spec_l13Good_s (soundE_cons spec_l13Limit_s (soundE_cons spec_l13Cover_s (soundE_cons spec_l1Least_s (soundE_cons spec_l1Most_s (soundE_nil (P := Tryz.prog)))))))
  refine acalls_fn spec_YearsSeen_k hE ⟨by simp, fun hwf => ?_⟩
  obtain ⟨hsr, hsp, hst, hss, hsk⟩ := hs_of hwf
  have hon_ps := hat_ps.on
  have hb_ps : b_ps < H.n := (hwf b_ps k_ps hat_ps.blk).1
  have hne_ps : (b_ps = H.n) = False := eq_false (by omega)
  have hne1_ps : ∀ i, (b_ps = H.n + i) = False := fun i => eq_false (by omega)
  have hne2_ps := ne2_of (a := b_ps) (b := H.n) (by omega)
  have hmx_ps : ps.length ≤ 9223372036854775807 := by have h1 := (hwf b_ps k_ps hat_ps.blk).2.2; have h2 := hat_ps.len; omega
  obtain ⟨hl, h⟩ := h
  unfold ysRes at h
  by_cases hv : areSi ps = true
  rotate_left
  · simp (config := {contextual := true, implicitDefEqProofs := false, maxSteps := 2000000}) [-Int.not_le, -Int.not_lt, argsF, spec_YearsSeen_c, hat_ps.blk, hat_ps.esz, hat_ps.len, hon_ps, hne_ps, hne1_ps, hne2_ps, hsr, hsp, hst, hss, hsk, hv]
    simp only [hv, if_false, reduceCtorEq] at h
    (refine Out.plain hwf ?_ rfl ?_; (repeat first | exact Sub.refl _ | refine Sub.push hwf ?_ _ | refine Sub.set hwf ?_ (by first | exact Nat.le_refl _ | omega | (simp only [push_n, set_n, kill_n]; omega)) _ | refine Sub.kill hwf ?_ (by first | exact Nat.le_refl _ | omega | (simp only [push_n, set_n, kill_n]; omega)))); exact h
  simp only [hv, if_true] at h
  by_cases hr : inR limit (-30) 16 = true
  rotate_left
  · simp (config := {contextual := true, implicitDefEqProofs := false, maxSteps := 2000000}) [-Int.not_le, -Int.not_lt, argsF, spec_YearsSeen_c, hat_ps.blk, hat_ps.esz, hat_ps.len, hon_ps, hne_ps, hne1_ps, hne2_ps, hsr, hsp, hst, hss, hsk, hv, hr]
    simp only [hr, if_false, reduceCtorEq] at h
    (refine Out.plain hwf ?_ rfl ?_; (repeat first | exact Sub.refl _ | refine Sub.push hwf ?_ _ | refine Sub.set hwf ?_ (by first | exact Nat.le_refl _ | omega | (simp only [push_n, set_n, kill_n]; omega)) _ | refine Sub.kill hwf ?_ (by first | exact Nat.le_refl _ | omega | (simp only [push_n, set_n, kill_n]; omega)))); exact h
  simp only [hr, if_true] at h
  rcases ixOf_find (fun s : Si => decide (s.id = id)) ps with ⟨e1, _⟩ | ⟨m, hm, e1, _⟩
  · rw [e1] at h
    simp (config := {contextual := true, implicitDefEqProofs := false, maxSteps := 2000000}) [-Int.not_le, -Int.not_lt, argsF, spec_YearsSeen_c, hat_ps.blk, hat_ps.esz, hat_ps.len, hon_ps, hne_ps, hne1_ps, hne2_ps, hsr, hsp, hst, hss, hsk, hv, hr, e1]
    simp only [show ((-1 : Int) < 0) = True from eq_true (by omega), if_true] at h
    (refine Out.plain hwf ?_ rfl ?_; (repeat first | exact Sub.refl _ | refine Sub.push hwf ?_ _ | refine Sub.set hwf ?_ (by first | exact Nat.le_refl _ | omega | (simp only [push_n, set_n, kill_n]; omega)) _ | refine Sub.kill hwf ?_ (by first | exact Nat.le_refl _ | omega | (simp only [push_n, set_n, kill_n]; omega)))); exact h
  have hm0 : ((m : Int) < 0) = False := eq_false (by omega)
  have hm1 : (0 ≤ (m : Int)) = True := eq_true (by omega)
  have hmi : ((m : Int) < (ps.length : Int)) = True := eq_true (by omega)
  rw [e1] at h
  simp only [hm0, if_false, Int.toNat_natCast] at h
  have hpl := areSi_len hv
  obtain ⟨ex_w, e_w, hd_w⟩ := hat_ps.get hm
  obtain ⟨b_w, i_w, k_w, rfl, hat_w, htx_w⟩ := eSi_at hd_w
  have hb_w : b_w < H.n := (hwf b_w k_w hat_w.blk).1
  have hne_w : (b_w = H.n) = False := eq_false (by omega)
  have hne1_w : ∀ i, (b_w = H.n + i) = False := fun i => eq_false (by omega)
  have hne2_w := ne2_of (a := b_w) (b := H.n) (by omega)
  simp (config := {contextual := true, implicitDefEqProofs := false, maxSteps := 2000000}) [-Int.not_le, -Int.not_lt, argsF, spec_YearsSeen_c, hat_ps.blk, hat_ps.esz, hat_ps.len, hon_ps, hne_ps, hne1_ps, hne2_ps, hsr, hsp, hst, hss, hsk, hv, hr, e1, hm0, hm1, hmi, hm, hpl, hl, e_w, htx_w, hat_w.blk, hat_w.esz, hat_w.len, hat_w.els, hne_w, hne1_w, hne2_w]
  refine Stop.mk fun H1 b1 o1 k1 hw1 hs1 hat1 => ?_
  simp only [e1, Int.toNat_natCast] at hat1
  have hn1 : H.n ≤ H1.n := hs1.1.1
  have hb1 : b1 < H1.n := (hw1 _ _ hat1.blk).1
  have hall : ∀ x ∈ comp (edge ps limit) ps.length m, x < ps.length := fun x hx => (mem_comp.1 hx).lt
  have hcl : (comp (edge ps limit) ps.length m).length ≤ ps.length := nodup_len _ _ (comp_up.imp fun {a b} h => by omega) hall
  have hmL : m ∈ comp (edge ps limit) ps.length m := mem_comp.2 (.refl hm)
  have hab := areSi_b hv _ (List.getElem_mem hm)
  have hym : yr ps m = ps[m].year := by simp [yr, List.getD_eq_getElem?_getD, hm]
  have hyf := years_from hmL (by rw [hym]; omega) (by rw [hym]; omega)
  rw [hym] at hyf
  rw [← hyf.1, ← hyf.2] at h
  generalize hL : comp (edge ps limit) ps.length m = L at h hat1 hall hcl
  simp (config := {contextual := true, implicitDefEqProofs := false, maxSteps := 2000000}) [-Int.not_le, -Int.not_lt, argsF, e1, hL]
  refine aloop_list2 L (fun j (mn mx : Int) => [(0, .c (.sl b_ps i_ps ps.length)), (10, .c (.int .i64 (mn))), (11, .c (.int .i64 (mx))), (12, .c (.sl (b1) (o1) (L.length))), (13, .c (.int .i64 (j)))]) (fun j _ _ => H1) (fun j l mn mx => yMin ps l mn = yMin ps L ps[m].year ∧ yMax ps l mx = yMax ps L ps[m].year) hE _ ps[m].year ps[m].year ⟨rfl, rfl⟩ (.since hn1 hw1 (.refl _) (by simp [frOk, AV.okR, AV.ok1, AC.okR, AV.ren, AV.ren1, AC.ren, AFrame.get, pl1_old, *]; first | done | rfl | omega)) (fun j mn mx hlt hi => ?_) fun mn mx hi => ?_
  · obtain ⟨hi1, hi2⟩ := hi
    have hLj := hall _ (List.getElem_mem hlt)
    have hj1 := idx_lt hlt
    have w1 : IntKind.i64.wrap ((j : Int) + 1) = (j : Int) + 1 := wrap_id (by omega) (by omega)
    have hat_ps : eSi.At H1 b_ps i_ps k_ps ps := hat_ps.sub hs1
    have hwf0 := hwf
    have hwf := hw1
    obtain ⟨ex_u, e_u, hd_u⟩ := hat_ps.get hLj
    obtain ⟨b_u, i_u, k_u, rfl, hat_u, htx_u⟩ := eSi_at hd_u
    have hb_u : b_u < H1.n := (hwf b_u k_u hat_u.blk).1
    have hne_u : (b_u = H1.n) = False := eq_false (by omega)
    have hne1_u : ∀ i, (b_u = H1.n + i) = False := fun i => eq_false (by omega)
    have hne2_u := ne2_of (a := b_u) (b := H1.n) (by omega)
    have er := hat1.get (j := j) (by rw [nats_len]; exact hlt)
    rw [show (nats L)[j]'(by rw [nats_len]; exact hlt) = (L[j] : Int) by simp [nats]] at er
    have hLi : ((L[j] : Int) < (ps.length : Int)) = True := eq_true (by omega)
    have hyr : yr ps L[j] = ps[L[j]].year := by simp [yr, List.getD_eq_getElem?_getD, hLj]
    simp only [yMin, yMax, hyr] at hi1 hi2
    simp (config := {contextual := true, implicitDefEqProofs := false, maxSteps := 2000000}) [-Int.not_le, -Int.not_lt, argsF, spec_YearsSeen_l0, hj1, w1, hat1.blk, hat1.esz, er, hlt, hLi, hLj, hat_ps.blk, hat_ps.esz, hat_ps.len, hon_ps, hne_ps, hne1_ps, hne2_ps, e_u, htx_u, hat_u.blk, hat_u.esz, hat_u.len, hat_u.els, hne_u, hne1_u, hne2_u]
    exact ⟨_, _, ⟨hi1, hi2⟩, .since hn1 hw1 (.refl _) (by simp [frOk, AV.okR, AV.ok1, AC.okR, AV.ren, AV.ren1, AC.ren, AFrame.get, pl1_old, *]; first | done | rfl | omega)⟩
  · obtain ⟨hi1, hi2⟩ := hi
    simp only [yMin, yMax] at hi1 hi2
    simp (config := {contextual := true, implicitDefEqProofs := false, maxSteps := 2000000}) [-Int.not_le, -Int.not_lt, argsF, spec_YearsSeen_l0]
    rw [← hi1, ← hi2] at h
    refine Out.plain (hwf) hs1 rfl ?_
    exact h

end Go.Proofs.YtafenginfojcmaaGreatDoor
