/- What the great laws share: an argument that is a slice of bytes. -/
import Derived.Test.YtafenginfojcmaaGreatDoorLawA
import Derived.Test.YtafenginfojcmaaGreatDoorSiDs
import Derived.OpenShut
set_option maxRecDepth 8000
set_option maxHeartbeats 1000000
set_option linter.unusedSimpArgs false
set_option linter.unusedVariables false
namespace Go.Proofs.YtafenginfojcmaaGreatDoor
open Go Go.ChangeShapes Go.WideShapes Go.ChangeAt Go.RowKit Go.Deep Go

/-- an argument that is a slice of bytes -/
theorem open_ByteS {H : Type} {enc : TypeId × Value → H} {W : World} {base : Nat} {v : Value} {d : DataW H} {p : List MemPlace} (hv : Value.okWide Tryz.prog W .any base 22 v)
    (h : DataW.Trod enc Tryz.prog W 0 (fun _ => true) true 22 v d p) : ∃ ps pl, ArgS eU 5 W v ps pl := by
  obtain ⟨a0, len0, cap0, rfl⟩ := okWide_slice Tryz.underlying22 hv
  obtain ⟨fuel, hf⟩ := h
  rcases open_slice Tryz.underlying22 hf with ⟨hcs, _⟩ | ⟨a, len, cap, m, n, D, Pl, hcs, _, hl, hm, hmm, _, hx⟩
  · simp [Value.cells] at hcs
    obtain ⟨rfl, rfl, rfl⟩ := hcs
    exact ⟨[], _, argS_nil eU _ W⟩
  · simp [Value.cells] at hcs
    obtain ⟨rfl, rfl, rfl⟩ := hcs
    refine argS_of eU _ (by decide) hl hm fun i hi => ?_
    obtain ⟨cs', hc, ht⟩ := hx i (by simp at hmm; omega)
    rw [show Tryz.prog.cellsOf 5 = 1 by kernel_rfl] at hc
    obtain ⟨m0, rfl, _, hw⟩ := DataW.trod_int Tryz.underlying5 ht
    obtain ⟨_, hcl, hat⟩ := World.cells?_some hc
    have hb : 0 ≤ m0 ∧ m0 < 256 := by
      simp only [Lit.wf, IntKind.min, IntKind.max, IntKind.bits, IntKind.signed] at hw
      simp at hw
      omega
    have hk : (((UInt8.ofNat m0.toNat).toNat : Nat) : Int) = m0 := by
      rw [UInt8.toNat_ofNat_of_lt' (by have : UInt8.size = 256 := rfl; omega)]
      omega
    refine ⟨UInt8.ofNat m0.toNat, fun j c hj => ?_⟩
    have hj5 : j < 1 := (List.getElem?_eq_some_iff.1 hj).1
    rw [← Go.Deep.add_add, eU_n, hat j hj5]
    match j, hj5, hj with
    | 0, _, hj => cases hj; exact ⟨_, rfl, fun _ _ => by rw [hk]; rfl⟩

end Go.Proofs.YtafenginfojcmaaGreatDoor
