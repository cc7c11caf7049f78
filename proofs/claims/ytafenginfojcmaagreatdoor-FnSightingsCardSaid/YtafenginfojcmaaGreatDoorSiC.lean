/- Printed by a program of ours: the functions' abstract code and facts on their types. -/
import Derived.Test.YtafenginfojcmaaGreatDoorAbsP
import Derived.Test.YtafenginfojcmaaGreatDoorProg
import Derived.KernelRfl
set_option maxRecDepth 8000
namespace Go.Proofs.YtafenginfojcmaaGreatDoor
open Go Go.RowKit
@[simp] theorem dk_3 : dK Tryz.prog 3 = some (.int .i64) := by kernel_rfl
@[simp] theorem ty_3 : tyK Tryz.prog 3 = some .cell := by kernel_rfl
@[simp] theorem zero_3 : zeroK Tryz.prog 3 = some [.int .i64 0] := by kernel_rfl
@[simp] theorem dk_4 : dK Tryz.prog 4 = some .bool := by kernel_rfl
@[simp] theorem ty_4 : tyK Tryz.prog 4 = some .cell := by kernel_rfl
@[simp] theorem zero_4 : zeroK Tryz.prog 4 = some [.bool false] := by kernel_rfl
@[simp] theorem dk_5 : dK Tryz.prog 5 = some (.int .u8) := by kernel_rfl
@[simp] theorem ty_5 : tyK Tryz.prog 5 = some .cell := by kernel_rfl
@[simp] theorem zero_5 : zeroK Tryz.prog 5 = some [.int .u8 0] := by kernel_rfl
@[simp] theorem dk_9 : dK Tryz.prog 9 = some .str := by kernel_rfl
@[simp] theorem ty_9 : tyK Tryz.prog 9 = some .cell := by kernel_rfl
@[simp] theorem zero_9 : zeroK Tryz.prog 9 = some [.str []] := by kernel_rfl
@[simp] theorem sl_22 : slK Tryz.prog 22 = some (5, 1, 1) := by kernel_rfl
@[simp] theorem dk_22 : dK Tryz.prog 22 = some (.bytes 5) := by kernel_rfl
@[simp] theorem ty_22 : tyK Tryz.prog 22 = some .cell := by kernel_rfl
@[simp] theorem zero_22 : zeroK Tryz.prog 22 = some [.nils] := by kernel_rfl
@[simp] theorem sl_24 : slK Tryz.prog 24 = some (32, 4, 56) := by kernel_rfl
@[simp] theorem dk_24 : dK Tryz.prog 24 = some .slc := by kernel_rfl
@[simp] theorem ty_24 : tyK Tryz.prog 24 = some .cell := by kernel_rfl
@[simp] theorem zero_24 : zeroK Tryz.prog 24 = some [.nils] := by kernel_rfl
@[simp] theorem sl_30 : slK Tryz.prog 30 = some (3, 1, 8) := by kernel_rfl
@[simp] theorem dk_30 : dK Tryz.prog 30 = some .slc := by kernel_rfl
@[simp] theorem ty_30 : tyK Tryz.prog 30 = some .cell := by kernel_rfl
@[simp] theorem zero_30 : zeroK Tryz.prog 30 = some [.nils] := by kernel_rfl
@[simp] theorem ty_32 : tyK Tryz.prog 32 = some (.obj 4) := by kernel_rfl
@[simp] theorem fld_32_0 : fldK Tryz.prog 32 0 = some 0 := by kernel_rfl
@[simp] theorem fld_32_1 : fldK Tryz.prog 32 1 = some 1 := by kernel_rfl
@[simp] theorem fld_32_2 : fldK Tryz.prog 32 2 = some 2 := by kernel_rfl
@[simp] theorem fld_32_3 : fldK Tryz.prog 32 3 = some 3 := by kernel_rfl
@[simp] theorem pl_32 : plK Tryz.prog 32 = some (some [(0, 1), (1, 1), (2, 1), (3, 1)]) := by kernel_rfl
@[simp] theorem zero_32 : zeroK Tryz.prog 32 = some [.int .i64 0, .int .i64 0, .str [], .nils] := by kernel_rfl
@[simp] theorem sl_35 : slK Tryz.prog 35 = some (30, 1, 24) := by kernel_rfl
@[simp] theorem dk_35 : dK Tryz.prog 35 = some .slc := by kernel_rfl
@[simp] theorem ty_35 : tyK Tryz.prog 35 = some .cell := by kernel_rfl
@[simp] theorem zero_35 : zeroK Tryz.prog 35 = some [.nils] := by kernel_rfl
@[simp] theorem sl_83 : slK Tryz.prog 83 = some (4, 1, 1) := by kernel_rfl
@[simp] theorem dk_83 : dK Tryz.prog 83 = some .slc := by kernel_rfl
@[simp] theorem ty_83 : tyK Tryz.prog 83 = some .cell := by kernel_rfl
@[simp] theorem zero_83 : zeroK Tryz.prog 83 = some [.nils] := by kernel_rfl
/-- loop.example/g01062/laws.rBig: number 4, params [0] -/
def laws_rBig_c : ACode := (.seq (.reg [⟨(some 2), .assign (.const (.bool false)), none⟩] [0])
  (.seq (.reg [⟨(some 3), .move (.tmp 0), none⟩,
    ⟨(some 4), .call ⟨.builtin .len, #[(.tmp 3)], #[22]⟩, none⟩,
    ⟨(some 5), .binOp .gtr 3 (.tmp 4) (.const (.int .i64 65536)) 3, none⟩,
    ⟨(some 2), .assign (.tmp 5), none⟩] [2])
  .ret))
theorem laws_rBig_k : fnOk Tryz.prog (fun _ => false) 4 = some (laws_rBig_c.strip, 6, [.tmp 2]) := by kernel_rfl
/-- head: [0, 6, 7, 8, 10, 22, 23, 24, 32, 33, 34] -/
def impl_StrongestPair_l0 : ACode := (.seq (.reg [⟨(some 35), .binOp .lss 3 (.tmp 34) (.tmp 33) 3, none⟩] [0, 6, 7, 8, 10, 22, 23, 24, 32, 33, 34, 35])
  (.seq (.cond (.tmp 35) .skip
  (.exit 2))
  (.seq (.block 3 (.seq (.reg [⟨(some 36), .indexAddr 24 (.tmp 32) (.tmp 34), none⟩,
    ⟨(some 37), .load 32 (.tmp 36), none⟩,
    ⟨(some 12), .alloc 32, none⟩,
    ⟨none, .store 32 (.tmp 12) (.tmp 37), none⟩] [0, 6, 7, 8, 10, 12, 22, 23, 24, 32, 33, 34])
  (.seq (.reg [⟨(some 38), .load 32 (.tmp 10), none⟩,
    ⟨(some 39), .load 32 (.tmp 12), none⟩,
    ⟨(some 40), .call ⟨.value (.func 29), #[(.tmp 38), (.tmp 39)], #[32, 32]⟩, none⟩,
    ⟨(some 13), .assign (.tmp 40), none⟩] [0, 6, 7, 8, 10, 12, 13, 22, 23, 24, 32, 33, 34])
  (.seq (.reg [⟨(some 41), .move (.tmp 6), none⟩,
    ⟨(some 42), .binOp .lss 3 (.tmp 41) (.const (.int .i64 0)) 3, none⟩,
    ⟨(some 43), .move (.tmp 42), none⟩,
    ⟨(some 44), .move (.tmp 13), (some (some 43, false))⟩,
    ⟨(some 45), .move (.tmp 8), (some (some 43, false))⟩,
    ⟨(some 46), .binOp .gtr 3 (.tmp 44) (.tmp 45) 3, (some (some 43, false))⟩,
    ⟨(some 47), .pick (.tmp 43) (.const (.bool true)) (.tmp 46), none⟩] [0, 6, 7, 8, 10, 12, 13, 22, 23, 24, 32, 33, 34, 47])
  (.cond (.tmp 47) (.regQ [⟨(some 48), .fieldAddr 32 (.tmp 10) 0, none⟩,
    ⟨(some 49), .load 3 (.tmp 48), none⟩,
    ⟨(some 50), .fieldAddr 32 (.tmp 12) 0, none⟩,
    ⟨(some 51), .load 3 (.tmp 50), none⟩,
    ⟨(some 52), .move (.tmp 13), none⟩,
    ⟨(some 6), .assign (.tmp 49), none⟩,
    ⟨(some 7), .assign (.tmp 51), none⟩,
    ⟨(some 8), .assign (.tmp 52), none⟩] [0, 6, 7, 8, 10, 22, 23, 24, 32, 33, 34])
  .skip)))))
  (.reg [⟨(some 53), .binOp .add 3 (.tmp 34) (.const (.int .i64 1)) 3, none⟩,
    ⟨(some 34), .move (.tmp 53), none⟩] [0, 6, 7, 8, 10, 22, 23, 24, 32, 33, 34]))))
/-- head: [0, 6, 7, 8, 22, 23, 24] -/
def impl_StrongestPair_l1 : ACode := (.seq (.reg [⟨(some 25), .binOp .lss 3 (.tmp 24) (.tmp 23) 3, none⟩] [0, 6, 7, 8, 22, 23, 24, 25])
  (.seq (.cond (.tmp 25) .skip
  (.exit 0))
  (.seq (.block 1 (.seq (.reg [⟨(some 26), .move (.tmp 24), none⟩,
    ⟨(some 27), .indexAddr 24 (.tmp 22) (.tmp 24), none⟩,
    ⟨(some 28), .load 32 (.tmp 27), none⟩,
    ⟨(some 10), .alloc 32, none⟩,
    ⟨(some 9), .assign (.tmp 26), none⟩,
    ⟨none, .store 32 (.tmp 10) (.tmp 28), none⟩] [0, 6, 7, 8, 9, 10, 22, 23, 24])
  (.seq (.reg [⟨(some 29), .move (.tmp 0), none⟩,
    ⟨(some 30), .move (.tmp 9), none⟩,
    ⟨(some 31), .binOp .add 3 (.tmp 30) (.const (.int .i64 1)) 3, none⟩,
    ⟨(some 32), .slice 24 (.tmp 29) (some (.tmp 31)) none none, none⟩,
    ⟨(some 33), .call ⟨.builtin .len, #[(.tmp 32)], #[24]⟩, none⟩,
    ⟨(some 34), .move (.const (.int .i64 0)), none⟩] [0, 6, 7, 8, 10, 22, 23, 24, 32, 33, 34])
  (.block 2 (.loop impl_StrongestPair_l0)))))
  (.reg [⟨(some 54), .binOp .add 3 (.tmp 24) (.const (.int .i64 1)) 3, none⟩,
    ⟨(some 24), .move (.tmp 54), none⟩] [0, 6, 7, 8, 22, 23, 24]))))
/-- loop.example/g01062/impl.StrongestPair: number 6, params [0] -/
def impl_StrongestPair_c : ACode := (.seq (.reg [⟨(some 2), .assign (.const (.int .i64 0)), none⟩,
    ⟨(some 3), .assign (.const (.int .i64 0)), none⟩,
    ⟨(some 4), .assign (.const (.int .i64 0)), none⟩,
    ⟨(some 5), .assign (.const (.bool false)), none⟩] [0])
  (.seq (.seq (.reg [⟨(some 14), .move (.tmp 0), none⟩,
    ⟨(some 15), .call ⟨.value (.func 28), #[(.tmp 14)], #[24]⟩, none⟩,
    ⟨(some 16), .unOp .not 4 (.tmp 15), none⟩,
    ⟨(some 17), .move (.tmp 16), none⟩,
    ⟨(some 18), .move (.tmp 0), (some (some 17, false))⟩,
    ⟨(some 19), .call ⟨.builtin .len, #[(.tmp 18)], #[24]⟩, (some (some 17, false))⟩,
    ⟨(some 20), .binOp .lss 3 (.tmp 19) (.const (.int .i64 2)) 3, (some (some 17, false))⟩,
    ⟨(some 21), .pick (.tmp 17) (.const (.bool true)) (.tmp 20), none⟩] [0, 21])
  (.cond (.tmp 21) (.seq (.reg [⟨(some 2), .assign (.const (.int .i64 0)), none⟩,
    ⟨(some 3), .assign (.const (.int .i64 0)), none⟩,
    ⟨(some 4), .assign (.const (.int .i64 0)), none⟩,
    ⟨(some 5), .assign (.const (.bool false)), none⟩] [2, 3, 4, 5])
  .ret)
  .skip))
  (.seq (.reg [⟨(some 6), .assign (.const (.int .i64 (-1))), none⟩,
    ⟨(some 7), .assign (.const (.int .i64 (-1))), none⟩,
    ⟨(some 8), .assign (.const (.int .i64 0)), none⟩] [0, 6, 7, 8])
  (.seq (.seq (.reg [⟨(some 22), .move (.tmp 0), none⟩,
    ⟨(some 23), .call ⟨.builtin .len, #[(.tmp 22)], #[24]⟩, none⟩,
    ⟨(some 24), .move (.const (.int .i64 0)), none⟩] [0, 6, 7, 8, 22, 23, 24])
  (.block 0 (.loop impl_StrongestPair_l1)))
  (.seq (.reg [⟨(some 55), .move (.tmp 6), none⟩,
    ⟨(some 56), .move (.tmp 7), none⟩,
    ⟨(some 57), .move (.tmp 8), none⟩,
    ⟨(some 2), .assign (.tmp 55), none⟩,
    ⟨(some 3), .assign (.tmp 56), none⟩,
    ⟨(some 4), .assign (.tmp 57), none⟩,
    ⟨(some 5), .assign (.const (.bool true)), none⟩] [2, 3, 4, 5])
  .ret)))))
theorem impl_StrongestPair_k : fnOk Tryz.prog (fun _ => false) 6 = some (impl_StrongestPair_c.strip, 58, [.tmp 2, .tmp 3, .tmp 4, .tmp 5]) := by kernel_rfl
/-- head: [0, 6, 7, 8, 9, 10] -/
def spec_StrongestPair_l0 : ACode := (.seq (.seq (.reg [⟨(some 28), .move (.tmp 10), none⟩,
    ⟨(some 29), .move (.tmp 0), none⟩,
    ⟨(some 30), .call ⟨.builtin .len, #[(.tmp 29)], #[24]⟩, none⟩,
    ⟨(some 31), .binOp .lss 3 (.tmp 28) (.tmp 30) 3, none⟩] [0, 6, 7, 8, 9, 10, 31])
  (.cond (.tmp 31) .skip
  (.exit 2)))
  (.seq (.block 3 (.seq (.regQ [⟨(some 34), .move (.tmp 0), none⟩,
    ⟨(some 35), .move (.tmp 9), none⟩,
    ⟨(some 36), .indexAddr 24 (.tmp 34) (.tmp 35), none⟩,
    ⟨(some 37), .load 32 (.tmp 36), none⟩,
    ⟨(some 38), .move (.tmp 0), none⟩,
    ⟨(some 39), .move (.tmp 10), none⟩,
    ⟨(some 40), .indexAddr 24 (.tmp 38) (.tmp 39), none⟩,
    ⟨(some 41), .load 32 (.tmp 40), none⟩,
    ⟨(some 42), .call ⟨.value (.func 31), #[(.tmp 37), (.tmp 41)], #[32, 32]⟩, none⟩,
    ⟨(some 11), .assign (.tmp 42), none⟩] [0, 6, 7, 8, 9, 10, 11])
  (.seq (.reg [⟨(some 43), .move (.tmp 11), none⟩,
    ⟨(some 44), .move (.tmp 8), none⟩,
    ⟨(some 45), .binOp .gtr 3 (.tmp 43) (.tmp 44) 3, none⟩] [0, 6, 7, 8, 9, 10, 11, 45])
  (.cond (.tmp 45) (.seq (.reg [⟨(some 46), .move (.tmp 0), none⟩,
    ⟨(some 47), .move (.tmp 9), none⟩,
    ⟨(some 48), .indexAddr 24 (.tmp 46) (.tmp 47), none⟩,
    ⟨(some 49), .fieldAddr 32 (.tmp 48) 0, none⟩,
    ⟨(some 50), .load 3 (.tmp 49), none⟩,
    ⟨(some 6), .assign (.tmp 50), none⟩] [0, 6, 9, 10, 11])
  (.seq (.reg [⟨(some 51), .move (.tmp 0), none⟩,
    ⟨(some 52), .move (.tmp 10), none⟩,
    ⟨(some 53), .indexAddr 24 (.tmp 51) (.tmp 52), none⟩,
    ⟨(some 54), .fieldAddr 32 (.tmp 53) 0, none⟩,
    ⟨(some 55), .load 3 (.tmp 54), none⟩,
    ⟨(some 7), .assign (.tmp 55), none⟩] [0, 6, 7, 9, 10, 11])
  (.reg [⟨(some 56), .move (.tmp 11), none⟩,
    ⟨(some 8), .assign (.tmp 56), none⟩] [0, 6, 7, 8, 9, 10])))
  .skip))))
  (.reg [⟨(some 32), .move (.tmp 10), none⟩,
    ⟨(some 33), .binOp .add 3 (.tmp 32) (.const (.int .i64 1)) 3, none⟩,
    ⟨(some 10), .assign (.tmp 33), none⟩] [0, 6, 7, 8, 9, 10])))
/-- head: [0, 6, 7, 8, 9] -/
def spec_StrongestPair_l1 : ACode := (.seq (.seq (.reg [⟨(some 20), .move (.tmp 9), none⟩,
    ⟨(some 21), .move (.tmp 0), none⟩,
    ⟨(some 22), .call ⟨.builtin .len, #[(.tmp 21)], #[24]⟩, none⟩,
    ⟨(some 23), .binOp .lss 3 (.tmp 20) (.tmp 22) 3, none⟩] [0, 6, 7, 8, 9, 23])
  (.cond (.tmp 23) .skip
  (.exit 0)))
  (.seq (.block 1 (.seq (.reg [⟨(some 26), .move (.tmp 9), none⟩,
    ⟨(some 27), .binOp .add 3 (.tmp 26) (.const (.int .i64 1)) 3, none⟩,
    ⟨(some 10), .assign (.tmp 27), none⟩] [0, 6, 7, 8, 9, 10])
  (.block 2 (.loop spec_StrongestPair_l0))))
  (.reg [⟨(some 24), .move (.tmp 9), none⟩,
    ⟨(some 25), .binOp .add 3 (.tmp 24) (.const (.int .i64 1)) 3, none⟩,
    ⟨(some 9), .assign (.tmp 25), none⟩] [0, 6, 7, 8, 9])))
/-- loop.example/g01062/spec.StrongestPair: number 7, params [0] -/
def spec_StrongestPair_c : ACode := (.seq (.reg [⟨(some 2), .assign (.const (.int .i64 0)), none⟩,
    ⟨(some 3), .assign (.const (.int .i64 0)), none⟩,
    ⟨(some 4), .assign (.const (.int .i64 0)), none⟩,
    ⟨(some 5), .assign (.const (.bool false)), none⟩] [0])
  (.seq (.seq (.reg [⟨(some 12), .move (.tmp 0), none⟩,
    ⟨(some 13), .call ⟨.value (.func 30), #[(.tmp 12)], #[24]⟩, none⟩,
    ⟨(some 14), .unOp .not 4 (.tmp 13), none⟩,
    ⟨(some 15), .move (.tmp 14), none⟩,
    ⟨(some 16), .move (.tmp 0), (some (some 15, false))⟩,
    ⟨(some 17), .call ⟨.builtin .len, #[(.tmp 16)], #[24]⟩, (some (some 15, false))⟩,
    ⟨(some 18), .binOp .lss 3 (.tmp 17) (.const (.int .i64 2)) 3, (some (some 15, false))⟩,
    ⟨(some 19), .pick (.tmp 15) (.const (.bool true)) (.tmp 18), none⟩] [0, 19])
  (.cond (.tmp 19) (.seq (.reg [⟨(some 2), .assign (.const (.int .i64 0)), none⟩,
    ⟨(some 3), .assign (.const (.int .i64 0)), none⟩,
    ⟨(some 4), .assign (.const (.int .i64 0)), none⟩,
    ⟨(some 5), .assign (.const (.bool false)), none⟩] [2, 3, 4, 5])
  .ret)
  .skip))
  (.seq (.reg [⟨(some 6), .assign (.const (.int .i64 0)), none⟩,
    ⟨(some 7), .assign (.const (.int .i64 0)), none⟩,
    ⟨(some 8), .assign (.const (.int .i64 (-99))), none⟩] [0, 6, 7, 8])
  (.seq (.seq (.reg [⟨(some 9), .assign (.const (.int .i64 0)), none⟩] [0, 6, 7, 8, 9])
  (.block 0 (.loop spec_StrongestPair_l1)))
  (.seq (.reg [⟨(some 57), .move (.tmp 6), none⟩,
    ⟨(some 58), .move (.tmp 7), none⟩,
    ⟨(some 59), .move (.tmp 8), none⟩,
    ⟨(some 2), .assign (.tmp 57), none⟩,
    ⟨(some 3), .assign (.tmp 58), none⟩,
    ⟨(some 4), .assign (.tmp 59), none⟩,
    ⟨(some 5), .assign (.const (.bool true)), none⟩] [2, 3, 4, 5])
  .ret)))))
theorem spec_StrongestPair_k : fnOk Tryz.prog (fun _ => false) 7 = some (spec_StrongestPair_c.strip, 60, [.tmp 2, .tmp 3, .tmp 4, .tmp 5]) := by kernel_rfl
/-- loop.example/g01062/impl.EvidenceOf: number 8, params [0, 1, 2] -/
def impl_EvidenceOf_c : ACode := (.seq (.reg [⟨(some 6), .assign (.const (.int .i64 0)), none⟩,
    ⟨(some 7), .assign (.const (.bool false)), none⟩] [0, 1, 2])
  (.seq (.reg [⟨(some 10), .move (.tmp 0), none⟩,
    ⟨(some 11), .move (.tmp 1), none⟩,
    ⟨(some 12), .call ⟨.value (.func 32), #[(.tmp 10), (.tmp 11)], #[24, 3]⟩, none⟩,
    ⟨(some 13), .move (.tmp 0), none⟩,
    ⟨(some 14), .move (.tmp 2), none⟩,
    ⟨(some 15), .call ⟨.value (.func 32), #[(.tmp 13), (.tmp 14)], #[24, 3]⟩, none⟩,
    ⟨(some 8), .assign (.tmp 12), none⟩,
    ⟨(some 9), .assign (.tmp 15), none⟩] [0, 8, 9])
  (.seq (.seq (.reg [⟨(some 16), .move (.tmp 0), none⟩,
    ⟨(some 17), .call ⟨.value (.func 28), #[(.tmp 16)], #[24]⟩, none⟩,
    ⟨(some 18), .unOp .not 4 (.tmp 17), none⟩,
    ⟨(some 19), .move (.tmp 18), none⟩,
    ⟨(some 20), .move (.tmp 8), (some (some 19, false))⟩,
    ⟨(some 21), .binOp .lss 3 (.tmp 20) (.const (.int .i64 0)) 3, (some (some 19, false))⟩,
    ⟨(some 22), .pick (.tmp 19) (.const (.bool true)) (.tmp 21), none⟩,
    ⟨(some 23), .move (.tmp 22), none⟩,
    ⟨(some 24), .move (.tmp 9), (some (some 23, false))⟩,
    ⟨(some 25), .binOp .lss 3 (.tmp 24) (.const (.int .i64 0)) 3, (some (some 23, false))⟩,
    ⟨(some 26), .pick (.tmp 23) (.const (.bool true)) (.tmp 25), none⟩] [0, 8, 9, 26])
  (.cond (.tmp 26) (.seq (.reg [⟨(some 6), .assign (.const (.int .i64 0)), none⟩,
    ⟨(some 7), .assign (.const (.bool false)), none⟩] [6, 7])
  .ret)
  .skip))
  (.seq (.regQ [⟨(some 27), .move (.tmp 0), none⟩,
    ⟨(some 28), .move (.tmp 8), none⟩,
    ⟨(some 29), .indexAddr 24 (.tmp 27) (.tmp 28), none⟩,
    ⟨(some 30), .load 32 (.tmp 29), none⟩,
    ⟨(some 31), .move (.tmp 0), none⟩,
    ⟨(some 32), .move (.tmp 9), none⟩,
    ⟨(some 33), .indexAddr 24 (.tmp 31) (.tmp 32), none⟩,
    ⟨(some 34), .load 32 (.tmp 33), none⟩,
    ⟨(some 35), .call ⟨.value (.func 29), #[(.tmp 30), (.tmp 34)], #[32, 32]⟩, none⟩,
    ⟨(some 6), .assign (.tmp 35), none⟩,
    ⟨(some 7), .assign (.const (.bool true)), none⟩] [6, 7])
  .ret))))
theorem impl_EvidenceOf_k : fnOk Tryz.prog (fun _ => false) 8 = some (impl_EvidenceOf_c.strip, 36, [.tmp 6, .tmp 7]) := by kernel_rfl
/-- head: [0, 1, 6, 8, 10, 23, 24, 25, 29, 30, 31, 39, 40, 41] -/
def impl_DoubtfulPairs_l0 : ACode := (.seq (.reg [⟨(some 42), .binOp .lss 3 (.tmp 41) (.tmp 40) 3, none⟩] [0, 1, 6, 8, 10, 23, 24, 25, 29, 30, 31, 39, 40, 41, 42])
  (.seq (.cond (.tmp 42) .skip
  (.exit 4))
  (.seq (.block 5 (.seq (.reg [⟨(some 43), .indexAddr 30 (.tmp 39) (.tmp 41), none⟩,
    ⟨(some 44), .load 3 (.tmp 43), none⟩,
    ⟨(some 12), .assign (.tmp 44), none⟩] [0, 1, 6, 8, 10, 12, 23, 24, 25, 29, 30, 31, 39, 40, 41])
  (.seq (.regQ [⟨(some 45), .move (.tmp 0), none⟩,
    ⟨(some 46), .move (.tmp 10), none⟩,
    ⟨(some 47), .indexAddr 24 (.tmp 45) (.tmp 46), none⟩,
    ⟨(some 48), .load 32 (.tmp 47), none⟩,
    ⟨(some 49), .move (.tmp 0), none⟩,
    ⟨(some 50), .move (.tmp 12), none⟩,
    ⟨(some 51), .indexAddr 24 (.tmp 49) (.tmp 50), none⟩,
    ⟨(some 52), .load 32 (.tmp 51), none⟩,
    ⟨(some 53), .call ⟨.value (.func 29), #[(.tmp 48), (.tmp 52)], #[32, 32]⟩, none⟩,
    ⟨(some 54), .move (.tmp 1), none⟩,
    ⟨(some 55), .binOp .lss 3 (.tmp 53) (.tmp 54) 3, none⟩] [0, 1, 6, 8, 10, 12, 23, 24, 25, 29, 30, 31, 39, 40, 41, 55])
  (.cond (.tmp 55) (.regF []
    [56, 57, 58, 59, 60, 61, 62, 63, 64, 65, 66, 67, 68] [] [] []
    [⟨(some 56), .move (.tmp 6), none⟩,
    ⟨(some 57), .move (.tmp 0), none⟩,
    ⟨(some 58), .move (.tmp 10), none⟩,
    ⟨(some 59), .indexAddr 24 (.tmp 57) (.tmp 58), none⟩,
    ⟨(some 60), .fieldAddr 32 (.tmp 59) 0, none⟩,
    ⟨(some 61), .load 3 (.tmp 60), none⟩,
    ⟨(some 62), .move (.tmp 0), none⟩,
    ⟨(some 63), .move (.tmp 12), none⟩,
    ⟨(some 64), .indexAddr 24 (.tmp 62) (.tmp 63), none⟩,
    ⟨(some 65), .fieldAddr 32 (.tmp 64) 0, none⟩,
    ⟨(some 66), .load 3 (.tmp 65), none⟩,
    ⟨(some 67), .buildSlice 30 2 #[(0, (.tmp 61)), (1, (.tmp 66))], none⟩,
    ⟨(some 68), .buildSlice 35 1 #[(0, (.tmp 67))], none⟩,
    ⟨(some 69), .call ⟨.builtin .append, #[(.tmp 56), (.tmp 68)], #[35, 35]⟩, none⟩,
    ⟨(some 6), .assign (.tmp 69), none⟩] [0, 1, 6, 8, 10, 23, 24, 25, 29, 30, 31, 39, 40, 41])
  .skip))))
  (.reg [⟨(some 70), .binOp .add 3 (.tmp 41) (.const (.int .i64 1)) 3, none⟩,
    ⟨(some 41), .move (.tmp 70), none⟩] [0, 1, 6, 8, 10, 23, 24, 25, 29, 30, 31, 39, 40, 41]))))
/-- head: [0, 1, 6, 8, 23, 24, 25, 29, 30, 31] -/
def impl_DoubtfulPairs_l1 : ACode := (.seq (.reg [⟨(some 32), .binOp .lss 3 (.tmp 31) (.tmp 30) 3, none⟩] [0, 1, 6, 8, 23, 24, 25, 29, 30, 31, 32])
  (.seq (.cond (.tmp 32) .skip
  (.exit 2))
  (.seq (.block 3 (.seq (.reg [⟨(some 33), .move (.tmp 31), none⟩,
    ⟨(some 34), .indexAddr 30 (.tmp 29) (.tmp 31), none⟩,
    ⟨(some 35), .load 3 (.tmp 34), none⟩,
    ⟨(some 9), .assign (.tmp 33), none⟩,
    ⟨(some 10), .assign (.tmp 35), none⟩] [0, 1, 6, 8, 9, 10, 23, 24, 25, 29, 30, 31])
  (.seq (.reg [⟨(some 36), .move (.tmp 8), none⟩,
    ⟨(some 37), .move (.tmp 9), none⟩,
    ⟨(some 38), .binOp .add 3 (.tmp 37) (.const (.int .i64 1)) 3, none⟩,
    ⟨(some 39), .slice 30 (.tmp 36) (some (.tmp 38)) none none, none⟩,
    ⟨(some 40), .call ⟨.builtin .len, #[(.tmp 39)], #[30]⟩, none⟩,
    ⟨(some 41), .move (.const (.int .i64 0)), none⟩] [0, 1, 6, 8, 10, 23, 24, 25, 29, 30, 31, 39, 40, 41])
  (.block 4 (.loop impl_DoubtfulPairs_l0)))))
  (.reg [⟨(some 71), .binOp .add 3 (.tmp 31) (.const (.int .i64 1)) 3, none⟩,
    ⟨(some 31), .move (.tmp 71), none⟩] [0, 1, 6, 8, 23, 24, 25, 29, 30, 31]))))
/-- head: [0, 1, 6, 23, 24, 25] -/
def impl_DoubtfulPairs_l2 : ACode := (.seq (.reg [⟨(some 26), .binOp .lss 3 (.tmp 25) (.tmp 24) 3, none⟩] [0, 1, 6, 23, 24, 25, 26])
  (.seq (.cond (.tmp 26) .skip
  (.exit 0))
  (.seq (.block 1 (.seq (.reg [⟨(some 27), .indexAddr 35 (.tmp 23) (.tmp 25), none⟩,
    ⟨(some 28), .load 30 (.tmp 27), none⟩,
    ⟨(some 8), .assign (.tmp 28), none⟩] [0, 1, 6, 8, 23, 24, 25])
  (.seq (.reg [⟨(some 29), .move (.tmp 8), none⟩,
    ⟨(some 30), .call ⟨.builtin .len, #[(.tmp 29)], #[30]⟩, none⟩,
    ⟨(some 31), .move (.const (.int .i64 0)), none⟩] [0, 1, 6, 8, 23, 24, 25, 29, 30, 31])
  (.block 2 (.loop impl_DoubtfulPairs_l1)))))
  (.reg [⟨(some 72), .binOp .add 3 (.tmp 25) (.const (.int .i64 1)) 3, none⟩,
    ⟨(some 25), .move (.tmp 72), none⟩] [0, 1, 6, 23, 24, 25]))))
/-- loop.example/g01062/impl.DoubtfulPairs: number 10, params [0, 1] -/
def impl_DoubtfulPairs_c : ACode := (.seq (.reg [⟨(some 4), .assign (.const (.slice none 0 0)), none⟩,
    ⟨(some 5), .assign (.const (.bool false)), none⟩] [0, 1])
  (.seq (.seq (.reg [⟨(some 13), .move (.tmp 0), none⟩,
    ⟨(some 14), .call ⟨.value (.func 28), #[(.tmp 13)], #[24]⟩, none⟩,
    ⟨(some 15), .unOp .not 4 (.tmp 14), none⟩,
    ⟨(some 16), .move (.tmp 15), none⟩,
    ⟨(some 17), .move (.tmp 1), (some (some 16, false))⟩,
    ⟨(some 18), .call ⟨.value (.func 34), #[(.tmp 17), (.const (.int .i64 (-30))), (.const (.int .i64 16))], #[3, 3, 3]⟩, (some (some 16, false))⟩,
    ⟨(some 19), .unOp .not 4 (.tmp 18), (some (some 16, false))⟩,
    ⟨(some 20), .pick (.tmp 16) (.const (.bool true)) (.tmp 19), none⟩] [0, 1, 20])
  (.cond (.tmp 20) (.seq (.reg [⟨(some 4), .assign (.const (.slice none 0 0)), none⟩,
    ⟨(some 5), .assign (.const (.bool false)), none⟩] [4, 5])
  .ret)
  .skip))
  (.seq (.reg [⟨(some 6), .assign (.const (.slice none 0 0)), none⟩] [0, 1, 6])
  (.seq (.seq (.reg [⟨(some 21), .move (.tmp 0), none⟩,
    ⟨(some 22), .move (.tmp 1), none⟩,
    ⟨(some 23), .call ⟨.value (.func 35), #[(.tmp 21), (.tmp 22)], #[24, 3]⟩, none⟩,
    ⟨(some 24), .call ⟨.builtin .len, #[(.tmp 23)], #[35]⟩, none⟩,
    ⟨(some 25), .move (.const (.int .i64 0)), none⟩] [0, 1, 6, 23, 24, 25])
  (.block 0 (.loop impl_DoubtfulPairs_l2)))
  (.seq (.reg [⟨(some 73), .move (.tmp 6), none⟩,
    ⟨(some 74), .call ⟨.value (.func 36), #[(.tmp 73), (.func 37)], #[35, 61]⟩, none⟩] [6])
  (.seq (.reg [⟨(some 75), .move (.tmp 6), none⟩,
    ⟨(some 4), .assign (.tmp 75), none⟩,
    ⟨(some 5), .assign (.const (.bool true)), none⟩] [4, 5])
  .ret))))))
theorem impl_DoubtfulPairs_k : fnOk Tryz.prog (fun _ => false) 10 = some (impl_DoubtfulPairs_c.strip, 76, [.tmp 4, .tmp 5]) := by kernel_rfl
/-- head: [0, 1, 6, 7, 8, 9] -/
def spec_DoubtfulPairs_l0 : ACode := (.seq (.seq (.reg [⟨(some 32), .move (.tmp 9), none⟩,
    ⟨(some 33), .move (.tmp 0), none⟩,
    ⟨(some 34), .call ⟨.builtin .len, #[(.tmp 33)], #[24]⟩, none⟩,
    ⟨(some 35), .binOp .lss 3 (.tmp 32) (.tmp 34) 3, none⟩] [0, 1, 6, 7, 8, 9, 35])
  (.cond (.tmp 35) .skip
  (.exit 2)))
  (.seq (.block 3 (.seq (.regQ [⟨(some 38), .move (.tmp 8), none⟩,
    ⟨(some 39), .move (.tmp 9), none⟩,
    ⟨(some 40), .call ⟨.value (.func 40), #[(.tmp 38), (.tmp 39)], #[30, 3]⟩, none⟩,
    ⟨(some 41), .move (.tmp 40), none⟩,
    ⟨(some 42), .move (.tmp 0), (some (some 41, true))⟩,
    ⟨(some 43), .move (.tmp 7), (some (some 41, true))⟩,
    ⟨(some 44), .indexAddr 24 (.tmp 42) (.tmp 43), (some (some 41, true))⟩,
    ⟨(some 45), .load 32 (.tmp 44), (some (some 41, true))⟩,
    ⟨(some 46), .move (.tmp 0), (some (some 41, true))⟩,
    ⟨(some 47), .move (.tmp 9), (some (some 41, true))⟩,
    ⟨(some 48), .indexAddr 24 (.tmp 46) (.tmp 47), (some (some 41, true))⟩,
    ⟨(some 49), .load 32 (.tmp 48), (some (some 41, true))⟩,
    ⟨(some 50), .call ⟨.value (.func 31), #[(.tmp 45), (.tmp 49)], #[32, 32]⟩, (some (some 41, true))⟩,
    ⟨(some 51), .move (.tmp 1), (some (some 41, true))⟩,
    ⟨(some 52), .binOp .lss 3 (.tmp 50) (.tmp 51) 3, (some (some 41, true))⟩,
    ⟨(some 53), .pick (.tmp 41) (.tmp 52) (.const (.bool false)), none⟩] [0, 1, 6, 7, 8, 9, 53])
  (.cond (.tmp 53) (.regF []
    [54, 55, 56, 57, 58, 59, 60, 61, 62, 63, 64, 65, 66] [] [] []
    [⟨(some 54), .move (.tmp 6), none⟩,
    ⟨(some 55), .move (.tmp 0), none⟩,
    ⟨(some 56), .move (.tmp 7), none⟩,
    ⟨(some 57), .indexAddr 24 (.tmp 55) (.tmp 56), none⟩,
    ⟨(some 58), .fieldAddr 32 (.tmp 57) 0, none⟩,
    ⟨(some 59), .load 3 (.tmp 58), none⟩,
    ⟨(some 60), .move (.tmp 0), none⟩,
    ⟨(some 61), .move (.tmp 9), none⟩,
    ⟨(some 62), .indexAddr 24 (.tmp 60) (.tmp 61), none⟩,
    ⟨(some 63), .fieldAddr 32 (.tmp 62) 0, none⟩,
    ⟨(some 64), .load 3 (.tmp 63), none⟩,
    ⟨(some 65), .buildSlice 30 2 #[(0, (.tmp 59)), (1, (.tmp 64))], none⟩,
    ⟨(some 66), .buildSlice 35 1 #[(0, (.tmp 65))], none⟩,
    ⟨(some 67), .call ⟨.builtin .append, #[(.tmp 54), (.tmp 66)], #[35, 35]⟩, none⟩,
    ⟨(some 6), .assign (.tmp 67), none⟩] [0, 1, 6, 7, 8, 9])
  .skip)))
  (.reg [⟨(some 36), .move (.tmp 9), none⟩,
    ⟨(some 37), .binOp .add 3 (.tmp 36) (.const (.int .i64 1)) 3, none⟩,
    ⟨(some 9), .assign (.tmp 37), none⟩] [0, 1, 6, 7, 8, 9])))
/-- head: [0, 1, 6, 7] -/
def spec_DoubtfulPairs_l1 : ACode := (.seq (.seq (.reg [⟨(some 20), .move (.tmp 7), none⟩,
    ⟨(some 21), .move (.tmp 0), none⟩,
    ⟨(some 22), .call ⟨.builtin .len, #[(.tmp 21)], #[24]⟩, none⟩,
    ⟨(some 23), .binOp .lss 3 (.tmp 20) (.tmp 22) 3, none⟩] [0, 1, 6, 7, 23])
  (.cond (.tmp 23) .skip
  (.exit 0)))
  (.seq (.block 1 (.seq (.reg [⟨(some 26), .move (.tmp 0), none⟩,
    ⟨(some 27), .move (.tmp 1), none⟩,
    ⟨(some 28), .move (.tmp 7), none⟩,
    ⟨(some 29), .call ⟨.value (.func 39), #[(.tmp 26), (.tmp 27), (.tmp 28)], #[24, 3, 3]⟩, none⟩,
    ⟨(some 8), .assign (.tmp 29), none⟩] [0, 1, 6, 7, 8])
  (.seq (.reg [⟨(some 30), .move (.tmp 7), none⟩,
    ⟨(some 31), .binOp .add 3 (.tmp 30) (.const (.int .i64 1)) 3, none⟩,
    ⟨(some 9), .assign (.tmp 31), none⟩] [0, 1, 6, 7, 8, 9])
  (.block 2 (.loop spec_DoubtfulPairs_l0)))))
  (.reg [⟨(some 24), .move (.tmp 7), none⟩,
    ⟨(some 25), .binOp .add 3 (.tmp 24) (.const (.int .i64 1)) 3, none⟩,
    ⟨(some 7), .assign (.tmp 25), none⟩] [0, 1, 6, 7])))
/-- loop.example/g01062/spec.DoubtfulPairs: number 11, params [0, 1] -/
def spec_DoubtfulPairs_c : ACode := (.seq (.reg [⟨(some 4), .assign (.const (.slice none 0 0)), none⟩,
    ⟨(some 5), .assign (.const (.bool false)), none⟩] [0, 1])
  (.seq (.reg [⟨(some 10), .buildSlice 35 0 #[], none⟩,
    ⟨(some 6), .assign (.tmp 10), none⟩] [0, 1, 6])
  (.seq (.seq (.reg [⟨(some 11), .move (.tmp 0), none⟩,
    ⟨(some 12), .call ⟨.value (.func 30), #[(.tmp 11)], #[24]⟩, none⟩,
    ⟨(some 13), .unOp .not 4 (.tmp 12), none⟩,
    ⟨(some 14), .move (.tmp 13), none⟩,
    ⟨(some 15), .move (.tmp 1), (some (some 14, false))⟩,
    ⟨(some 16), .call ⟨.value (.func 38), #[(.tmp 15)], #[3]⟩, (some (some 14, false))⟩,
    ⟨(some 17), .unOp .not 4 (.tmp 16), (some (some 14, false))⟩,
    ⟨(some 18), .pick (.tmp 14) (.const (.bool true)) (.tmp 17), none⟩] [0, 1, 6, 18])
  (.cond (.tmp 18) (.seq (.reg [⟨(some 19), .move (.tmp 6), none⟩,
    ⟨(some 4), .assign (.tmp 19), none⟩,
    ⟨(some 5), .assign (.const (.bool false)), none⟩] [4, 5])
  .ret)
  .skip))
  (.seq (.seq (.reg [⟨(some 7), .assign (.const (.int .i64 0)), none⟩] [0, 1, 6, 7])
  (.block 0 (.loop spec_DoubtfulPairs_l1)))
  (.seq (.reg [⟨(some 68), .move (.tmp 6), none⟩,
    ⟨(some 4), .assign (.tmp 68), none⟩,
    ⟨(some 5), .assign (.const (.bool true)), none⟩] [4, 5])
  .ret)))))
theorem spec_DoubtfulPairs_k : fnOk Tryz.prog (fun _ => false) 11 = some (spec_DoubtfulPairs_c.strip, 69, [.tmp 4, .tmp 5]) := by kernel_rfl
/-- head: [0, 1, 5] -/
def laws_rTable_l0 : ACode := (.seq (.seq (.reg [⟨(some 11), .move (.tmp 5), none⟩,
    ⟨(some 12), .move (.tmp 0), none⟩,
    ⟨(some 13), .call ⟨.builtin .len, #[(.tmp 12)], #[35]⟩, none⟩,
    ⟨(some 14), .binOp .lss 3 (.tmp 11) (.tmp 13) 3, none⟩] [0, 1, 5, 14])
  (.cond (.tmp 14) .skip
  (.exit 0)))
  (.seq (.block 1 (.seq (.regQ [⟨(some 17), .move (.tmp 0), none⟩,
    ⟨(some 18), .move (.tmp 5), none⟩,
    ⟨(some 19), .indexAddr 35 (.tmp 17) (.tmp 18), none⟩,
    ⟨(some 20), .load 30 (.tmp 19), none⟩,
    ⟨(some 21), .move (.tmp 1), none⟩,
    ⟨(some 22), .move (.tmp 5), none⟩,
    ⟨(some 23), .indexAddr 35 (.tmp 21) (.tmp 22), none⟩,
    ⟨(some 24), .load 30 (.tmp 23), none⟩,
    ⟨(some 25), .call ⟨.value (.func 16), #[(.tmp 20), (.tmp 24)], #[30, 30]⟩, none⟩,
    ⟨(some 26), .unOp .not 4 (.tmp 25), none⟩] [0, 1, 5, 26])
  (.cond (.tmp 26) (.seq (.reg [⟨(some 4), .assign (.const (.bool false)), none⟩] [4])
  .ret)
  .skip)))
  (.reg [⟨(some 15), .move (.tmp 5), none⟩,
    ⟨(some 16), .binOp .add 3 (.tmp 15) (.const (.int .i64 1)) 3, none⟩,
    ⟨(some 5), .assign (.tmp 16), none⟩] [0, 1, 5])))
/-- loop.example/g01062/laws.rTable: number 12, params [0, 1] -/
def laws_rTable_c : ACode := (.seq (.reg [⟨(some 4), .assign (.const (.bool false)), none⟩] [0, 1])
  (.seq (.seq (.reg [⟨(some 6), .move (.tmp 0), none⟩,
    ⟨(some 7), .call ⟨.builtin .len, #[(.tmp 6)], #[35]⟩, none⟩,
    ⟨(some 8), .move (.tmp 1), none⟩,
    ⟨(some 9), .call ⟨.builtin .len, #[(.tmp 8)], #[35]⟩, none⟩,
    ⟨(some 10), .binOp .neq 3 (.tmp 7) (.tmp 9) 3, none⟩] [0, 1, 10])
  (.cond (.tmp 10) (.seq (.reg [⟨(some 4), .assign (.const (.bool false)), none⟩] [4])
  .ret)
  .skip))
  (.seq (.seq (.reg [⟨(some 5), .assign (.const (.int .i64 0)), none⟩] [0, 1, 5])
  (.block 0 (.loop laws_rTable_l0)))
  (.seq (.reg [⟨(some 4), .assign (.const (.bool true)), none⟩] [4])
  .ret))))
theorem laws_rTable_k : fnOk Tryz.prog (fun _ => false) 12 = some (laws_rTable_c.strip, 27, [.tmp 4]) := by kernel_rfl
/-- head: [0, 8, 28, 29, 30] -/
def impl_TraitsSeen_l0 : ACode := (.seq (.reg [⟨(some 31), .binOp .lss 3 (.tmp 30) (.tmp 29) 3, none⟩] [0, 8, 28, 29, 30, 31])
  (.seq (.cond (.tmp 31) .skip
  (.exit 0))
  (.seq (.block 1 (.seq (.reg [⟨(some 32), .indexAddr 30 (.tmp 28) (.tmp 30), none⟩,
    ⟨(some 33), .load 3 (.tmp 32), none⟩,
    ⟨(some 10), .assign (.tmp 33), none⟩] [0, 8, 10, 28, 29, 30])
  (.reg [⟨(some 34), .move (.tmp 8), none⟩,
    ⟨(some 35), .move (.tmp 0), none⟩,
    ⟨(some 36), .move (.tmp 10), none⟩,
    ⟨(some 37), .indexAddr 24 (.tmp 35) (.tmp 36), none⟩,
    ⟨(some 38), .fieldAddr 32 (.tmp 37) 3, none⟩,
    ⟨(some 39), .load 30 (.tmp 38), none⟩,
    ⟨(some 40), .call ⟨.builtin .append, #[(.tmp 34), (.tmp 39)], #[30, 30]⟩, none⟩,
    ⟨(some 8), .assign (.tmp 40), none⟩] [0, 8, 28, 29, 30])))
  (.reg [⟨(some 41), .binOp .add 3 (.tmp 30) (.const (.int .i64 1)) 3, none⟩,
    ⟨(some 30), .move (.tmp 41), none⟩] [0, 8, 28, 29, 30]))))
/-- loop.example/g01062/impl.TraitsSeen: number 14, params [0, 1, 2] -/
def impl_TraitsSeen_c : ACode := (.seq (.reg [⟨(some 6), .assign (.const (.slice none 0 0)), none⟩,
    ⟨(some 7), .assign (.const (.bool false)), none⟩] [0, 1, 2])
  (.seq (.seq (.reg [⟨(some 11), .move (.tmp 0), none⟩,
    ⟨(some 12), .call ⟨.value (.func 28), #[(.tmp 11)], #[24]⟩, none⟩,
    ⟨(some 13), .unOp .not 4 (.tmp 12), none⟩,
    ⟨(some 14), .move (.tmp 13), none⟩,
    ⟨(some 15), .move (.tmp 1), (some (some 14, false))⟩,
    ⟨(some 16), .call ⟨.value (.func 34), #[(.tmp 15), (.const (.int .i64 (-30))), (.const (.int .i64 16))], #[3, 3, 3]⟩, (some (some 14, false))⟩,
    ⟨(some 17), .unOp .not 4 (.tmp 16), (some (some 14, false))⟩,
    ⟨(some 18), .pick (.tmp 14) (.const (.bool true)) (.tmp 17), none⟩,
    ⟨(some 19), .move (.tmp 18), none⟩,
    ⟨(some 20), .move (.tmp 0), (some (some 19, false))⟩,
    ⟨(some 21), .move (.tmp 2), (some (some 19, false))⟩,
    ⟨(some 22), .call ⟨.value (.func 32), #[(.tmp 20), (.tmp 21)], #[24, 3]⟩, (some (some 19, false))⟩,
    ⟨(some 23), .binOp .lss 3 (.tmp 22) (.const (.int .i64 0)) 3, (some (some 19, false))⟩,
    ⟨(some 24), .pick (.tmp 19) (.const (.bool true)) (.tmp 23), none⟩] [0, 1, 2, 24])
  (.cond (.tmp 24) (.seq (.reg [⟨(some 6), .assign (.const (.slice none 0 0)), none⟩,
    ⟨(some 7), .assign (.const (.bool false)), none⟩] [6, 7])
  .ret)
  .skip))
  (.seq (.reg [⟨(some 8), .assign (.const (.slice none 0 0)), none⟩] [0, 1, 2, 8])
  (.seq (.seq (.reg [⟨(some 25), .move (.tmp 0), none⟩,
    ⟨(some 26), .move (.tmp 1), none⟩,
    ⟨(some 27), .move (.tmp 2), none⟩,
    ⟨(some 28), .call ⟨.value (.func 44), #[(.tmp 25), (.tmp 26), (.tmp 27)], #[24, 3, 3]⟩, none⟩,
    ⟨(some 29), .call ⟨.builtin .len, #[(.tmp 28)], #[30]⟩, none⟩,
    ⟨(some 30), .move (.const (.int .i64 0)), none⟩] [0, 8, 28, 29, 30])
  (.block 0 (.loop impl_TraitsSeen_l0)))
  (.seq (.reg [⟨(some 42), .move (.tmp 8), none⟩,
    ⟨(some 43), .call ⟨.value (.func 45), #[(.tmp 42)], #[30]⟩, none⟩] [8])
  (.seq (.reg [⟨(some 44), .move (.tmp 8), none⟩,
    ⟨(some 45), .call ⟨.value (.func 46), #[(.tmp 44)], #[30]⟩, none⟩,
    ⟨(some 6), .assign (.tmp 45), none⟩,
    ⟨(some 7), .assign (.const (.bool true)), none⟩] [6, 7])
  .ret))))))
theorem impl_TraitsSeen_k : fnOk Tryz.prog (fun _ => false) 14 = some (impl_TraitsSeen_c.strip, 46, [.tmp 6, .tmp 7]) := by kernel_rfl
/-- head: [0, 8, 10, 11, 12, 13] -/
def spec_TraitsSeen_l0 : ACode := (.seq (.seq (.reg [⟨(some 49), .move (.tmp 13), none⟩,
    ⟨(some 50), .move (.tmp 12), none⟩,
    ⟨(some 51), .call ⟨.builtin .len, #[(.tmp 50)], #[30]⟩, none⟩,
    ⟨(some 52), .binOp .lss 3 (.tmp 49) (.tmp 51) 3, none⟩] [0, 8, 10, 11, 12, 13, 52])
  (.cond (.tmp 52) .skip
  (.exit 2)))
  (.seq (.block 3 (.reg [⟨(some 55), .move (.tmp 8), none⟩,
    ⟨(some 56), .move (.tmp 12), none⟩,
    ⟨(some 57), .move (.tmp 13), none⟩,
    ⟨(some 58), .indexAddr 30 (.tmp 56) (.tmp 57), none⟩,
    ⟨(some 59), .load 3 (.tmp 58), none⟩,
    ⟨(some 60), .call ⟨.value (.func 48), #[(.tmp 55), (.tmp 59)], #[30, 3]⟩, none⟩,
    ⟨(some 8), .assign (.tmp 60), none⟩] [0, 8, 10, 11, 12, 13]))
  (.reg [⟨(some 53), .move (.tmp 13), none⟩,
    ⟨(some 54), .binOp .add 3 (.tmp 53) (.const (.int .i64 1)) 3, none⟩,
    ⟨(some 13), .assign (.tmp 54), none⟩] [0, 8, 10, 11, 12, 13])))
/-- head: [0, 8, 10, 11] -/
def spec_TraitsSeen_l1 : ACode := (.seq (.seq (.reg [⟨(some 35), .move (.tmp 11), none⟩,
    ⟨(some 36), .move (.tmp 10), none⟩,
    ⟨(some 37), .call ⟨.builtin .len, #[(.tmp 36)], #[30]⟩, none⟩,
    ⟨(some 38), .binOp .lss 3 (.tmp 35) (.tmp 37) 3, none⟩] [0, 8, 10, 11, 38])
  (.cond (.tmp 38) .skip
  (.exit 0)))
  (.seq (.block 1 (.seq (.reg [⟨(some 41), .move (.tmp 0), none⟩,
    ⟨(some 42), .move (.tmp 10), none⟩,
    ⟨(some 43), .move (.tmp 11), none⟩,
    ⟨(some 44), .indexAddr 30 (.tmp 42) (.tmp 43), none⟩,
    ⟨(some 45), .load 3 (.tmp 44), none⟩,
    ⟨(some 46), .indexAddr 24 (.tmp 41) (.tmp 45), none⟩,
    ⟨(some 47), .fieldAddr 32 (.tmp 46) 3, none⟩,
    ⟨(some 48), .load 30 (.tmp 47), none⟩,
    ⟨(some 12), .assign (.tmp 48), none⟩] [0, 8, 10, 11, 12])
  (.seq (.reg [⟨(some 13), .assign (.const (.int .i64 0)), none⟩] [0, 8, 10, 11, 12, 13])
  (.block 2 (.loop spec_TraitsSeen_l0)))))
  (.reg [⟨(some 39), .move (.tmp 11), none⟩,
    ⟨(some 40), .binOp .add 3 (.tmp 39) (.const (.int .i64 1)) 3, none⟩,
    ⟨(some 11), .assign (.tmp 40), none⟩] [0, 8, 10, 11])))
/-- loop.example/g01062/spec.TraitsSeen: number 15, params [0, 1, 2] -/
def spec_TraitsSeen_c : ACode := (.seq (.reg [⟨(some 6), .assign (.const (.slice none 0 0)), none⟩,
    ⟨(some 7), .assign (.const (.bool false)), none⟩] [0, 1, 2])
  (.seq (.reg [⟨(some 14), .buildSlice 30 0 #[], none⟩,
    ⟨(some 8), .assign (.tmp 14), none⟩] [0, 1, 2, 8])
  (.seq (.reg [⟨(some 15), .move (.tmp 0), none⟩,
    ⟨(some 16), .move (.tmp 2), none⟩,
    ⟨(some 17), .call ⟨.value (.func 47), #[(.tmp 15), (.tmp 16)], #[24, 3]⟩, none⟩,
    ⟨(some 9), .assign (.tmp 17), none⟩] [0, 1, 8, 9])
  (.seq (.seq (.reg [⟨(some 18), .move (.tmp 0), none⟩,
    ⟨(some 19), .call ⟨.value (.func 30), #[(.tmp 18)], #[24]⟩, none⟩,
    ⟨(some 20), .unOp .not 4 (.tmp 19), none⟩,
    ⟨(some 21), .move (.tmp 20), none⟩,
    ⟨(some 22), .move (.tmp 1), (some (some 21, false))⟩,
    ⟨(some 23), .call ⟨.value (.func 38), #[(.tmp 22)], #[3]⟩, (some (some 21, false))⟩,
    ⟨(some 24), .unOp .not 4 (.tmp 23), (some (some 21, false))⟩,
    ⟨(some 25), .pick (.tmp 21) (.const (.bool true)) (.tmp 24), none⟩,
    ⟨(some 26), .move (.tmp 25), none⟩,
    ⟨(some 27), .move (.tmp 9), (some (some 26, false))⟩,
    ⟨(some 28), .binOp .lss 3 (.tmp 27) (.const (.int .i64 0)) 3, (some (some 26, false))⟩,
    ⟨(some 29), .pick (.tmp 26) (.const (.bool true)) (.tmp 28), none⟩] [0, 1, 8, 9, 29])
  (.cond (.tmp 29) (.seq (.reg [⟨(some 30), .move (.tmp 8), none⟩,
    ⟨(some 6), .assign (.tmp 30), none⟩,
    ⟨(some 7), .assign (.const (.bool false)), none⟩] [6, 7])
  .ret)
  .skip))
  (.seq (.reg [⟨(some 31), .move (.tmp 0), none⟩,
    ⟨(some 32), .move (.tmp 1), none⟩,
    ⟨(some 33), .move (.tmp 9), none⟩,
    ⟨(some 34), .call ⟨.value (.func 39), #[(.tmp 31), (.tmp 32), (.tmp 33)], #[24, 3, 3]⟩, none⟩,
    ⟨(some 10), .assign (.tmp 34), none⟩] [0, 8, 10])
  (.seq (.seq (.reg [⟨(some 11), .assign (.const (.int .i64 0)), none⟩] [0, 8, 10, 11])
  (.block 0 (.loop spec_TraitsSeen_l1)))
  (.seq (.reg [⟨(some 61), .move (.tmp 8), none⟩,
    ⟨(some 6), .assign (.tmp 61), none⟩,
    ⟨(some 7), .assign (.const (.bool true)), none⟩] [6, 7])
  .ret)))))))
theorem spec_TraitsSeen_k : fnOk Tryz.prog (fun _ => false) 15 = some (spec_TraitsSeen_c.strip, 62, [.tmp 6, .tmp 7]) := by kernel_rfl
/-- head: [0, 1, 5] -/
def laws_rInts_l0 : ACode := (.seq (.seq (.reg [⟨(some 11), .move (.tmp 5), none⟩,
    ⟨(some 12), .move (.tmp 0), none⟩,
    ⟨(some 13), .call ⟨.builtin .len, #[(.tmp 12)], #[30]⟩, none⟩,
    ⟨(some 14), .binOp .lss 3 (.tmp 11) (.tmp 13) 3, none⟩] [0, 1, 5, 14])
  (.cond (.tmp 14) .skip
  (.exit 0)))
  (.seq (.block 1 (.seq (.regQ [⟨(some 17), .move (.tmp 0), none⟩,
    ⟨(some 18), .move (.tmp 5), none⟩,
    ⟨(some 19), .indexAddr 30 (.tmp 17) (.tmp 18), none⟩,
    ⟨(some 20), .load 3 (.tmp 19), none⟩,
    ⟨(some 21), .move (.tmp 1), none⟩,
    ⟨(some 22), .move (.tmp 5), none⟩,
    ⟨(some 23), .indexAddr 30 (.tmp 21) (.tmp 22), none⟩,
    ⟨(some 24), .load 3 (.tmp 23), none⟩,
    ⟨(some 25), .binOp .neq 3 (.tmp 20) (.tmp 24) 3, none⟩] [0, 1, 5, 25])
  (.cond (.tmp 25) (.seq (.reg [⟨(some 4), .assign (.const (.bool false)), none⟩] [4])
  .ret)
  .skip)))
  (.reg [⟨(some 15), .move (.tmp 5), none⟩,
    ⟨(some 16), .binOp .add 3 (.tmp 15) (.const (.int .i64 1)) 3, none⟩,
    ⟨(some 5), .assign (.tmp 16), none⟩] [0, 1, 5])))
/-- loop.example/g01062/laws.rInts: number 16, params [0, 1] -/
def laws_rInts_c : ACode := (.seq (.reg [⟨(some 4), .assign (.const (.bool false)), none⟩] [0, 1])
  (.seq (.seq (.reg [⟨(some 6), .move (.tmp 0), none⟩,
    ⟨(some 7), .call ⟨.builtin .len, #[(.tmp 6)], #[30]⟩, none⟩,
    ⟨(some 8), .move (.tmp 1), none⟩,
    ⟨(some 9), .call ⟨.builtin .len, #[(.tmp 8)], #[30]⟩, none⟩,
    ⟨(some 10), .binOp .neq 3 (.tmp 7) (.tmp 9) 3, none⟩] [0, 1, 10])
  (.cond (.tmp 10) (.seq (.reg [⟨(some 4), .assign (.const (.bool false)), none⟩] [4])
  .ret)
  .skip))
  (.seq (.seq (.reg [⟨(some 5), .assign (.const (.int .i64 0)), none⟩] [0, 1, 5])
  (.block 0 (.loop laws_rInts_l0)))
  (.seq (.reg [⟨(some 4), .assign (.const (.bool true)), none⟩] [4])
  .ret))))
theorem laws_rInts_k : fnOk Tryz.prog (fun _ => false) 16 = some (laws_rInts_c.strip, 26, [.tmp 4]) := by kernel_rfl
/-- head: [0, 9, 10, 30, 31, 32] -/
def impl_YearsSeen_l0 : ACode := (.seq (.reg [⟨(some 33), .binOp .lss 3 (.tmp 32) (.tmp 31) 3, none⟩] [0, 9, 10, 30, 31, 32, 33])
  (.seq (.cond (.tmp 33) .skip
  (.exit 0))
  (.seq (.block 1 (.seq (.reg [⟨(some 34), .indexAddr 30 (.tmp 30) (.tmp 32), none⟩,
    ⟨(some 35), .load 3 (.tmp 34), none⟩,
    ⟨(some 12), .assign (.tmp 35), none⟩] [0, 9, 10, 12, 30, 31, 32])
  (.regQ [⟨(some 36), .move (.tmp 9), none⟩,
    ⟨(some 37), .move (.tmp 0), none⟩,
    ⟨(some 38), .move (.tmp 12), none⟩,
    ⟨(some 39), .indexAddr 24 (.tmp 37) (.tmp 38), none⟩,
    ⟨(some 40), .fieldAddr 32 (.tmp 39) 1, none⟩,
    ⟨(some 41), .load 3 (.tmp 40), none⟩,
    ⟨(some 42), .call ⟨.builtin .min, #[(.tmp 36), (.tmp 41)], #[3, 3]⟩, none⟩,
    ⟨(some 43), .move (.tmp 10), none⟩,
    ⟨(some 44), .move (.tmp 0), none⟩,
    ⟨(some 45), .move (.tmp 12), none⟩,
    ⟨(some 46), .indexAddr 24 (.tmp 44) (.tmp 45), none⟩,
    ⟨(some 47), .fieldAddr 32 (.tmp 46) 1, none⟩,
    ⟨(some 48), .load 3 (.tmp 47), none⟩,
    ⟨(some 49), .call ⟨.builtin .max, #[(.tmp 43), (.tmp 48)], #[3, 3]⟩, none⟩,
    ⟨(some 9), .assign (.tmp 42), none⟩,
    ⟨(some 10), .assign (.tmp 49), none⟩] [0, 9, 10, 30, 31, 32])))
  (.reg [⟨(some 50), .binOp .add 3 (.tmp 32) (.const (.int .i64 1)) 3, none⟩,
    ⟨(some 32), .move (.tmp 50), none⟩] [0, 9, 10, 30, 31, 32]))))
/-- loop.example/g01062/impl.YearsSeen: number 17, params [0, 1, 2] -/
def impl_YearsSeen_c : ACode := (.seq (.reg [⟨(some 6), .assign (.const (.int .i64 0)), none⟩,
    ⟨(some 7), .assign (.const (.int .i64 0)), none⟩,
    ⟨(some 8), .assign (.const (.bool false)), none⟩] [0, 1, 2])
  (.seq (.seq (.reg [⟨(some 13), .move (.tmp 0), none⟩,
    ⟨(some 14), .call ⟨.value (.func 28), #[(.tmp 13)], #[24]⟩, none⟩,
    ⟨(some 15), .unOp .not 4 (.tmp 14), none⟩,
    ⟨(some 16), .move (.tmp 15), none⟩,
    ⟨(some 17), .move (.tmp 1), (some (some 16, false))⟩,
    ⟨(some 18), .call ⟨.value (.func 34), #[(.tmp 17), (.const (.int .i64 (-30))), (.const (.int .i64 16))], #[3, 3, 3]⟩, (some (some 16, false))⟩,
    ⟨(some 19), .unOp .not 4 (.tmp 18), (some (some 16, false))⟩,
    ⟨(some 20), .pick (.tmp 16) (.const (.bool true)) (.tmp 19), none⟩,
    ⟨(some 21), .move (.tmp 20), none⟩,
    ⟨(some 22), .move (.tmp 0), (some (some 21, false))⟩,
    ⟨(some 23), .move (.tmp 2), (some (some 21, false))⟩,
    ⟨(some 24), .call ⟨.value (.func 32), #[(.tmp 22), (.tmp 23)], #[24, 3]⟩, (some (some 21, false))⟩,
    ⟨(some 25), .binOp .lss 3 (.tmp 24) (.const (.int .i64 0)) 3, (some (some 21, false))⟩,
    ⟨(some 26), .pick (.tmp 21) (.const (.bool true)) (.tmp 25), none⟩] [0, 1, 2, 26])
  (.cond (.tmp 26) (.seq (.reg [⟨(some 6), .assign (.const (.int .i64 0)), none⟩,
    ⟨(some 7), .assign (.const (.int .i64 0)), none⟩,
    ⟨(some 8), .assign (.const (.bool false)), none⟩] [6, 7, 8])
  .ret)
  .skip))
  (.seq (.reg [⟨(some 9), .assign (.const (.int .i64 2100)), none⟩,
    ⟨(some 10), .assign (.const (.int .i64 1840)), none⟩] [0, 1, 2, 9, 10])
  (.seq (.seq (.reg [⟨(some 27), .move (.tmp 0), none⟩,
    ⟨(some 28), .move (.tmp 1), none⟩,
    ⟨(some 29), .move (.tmp 2), none⟩,
    ⟨(some 30), .call ⟨.value (.func 44), #[(.tmp 27), (.tmp 28), (.tmp 29)], #[24, 3, 3]⟩, none⟩,
    ⟨(some 31), .call ⟨.builtin .len, #[(.tmp 30)], #[30]⟩, none⟩,
    ⟨(some 32), .move (.const (.int .i64 0)), none⟩] [0, 9, 10, 30, 31, 32])
  (.block 0 (.loop impl_YearsSeen_l0)))
  (.seq (.reg [⟨(some 51), .move (.tmp 9), none⟩,
    ⟨(some 52), .move (.tmp 10), none⟩,
    ⟨(some 6), .assign (.tmp 51), none⟩,
    ⟨(some 7), .assign (.tmp 52), none⟩,
    ⟨(some 8), .assign (.const (.bool true)), none⟩] [6, 7, 8])
  .ret)))))
theorem impl_YearsSeen_k : fnOk Tryz.prog (fun _ => false) 17 = some (impl_YearsSeen_c.strip, 53, [.tmp 6, .tmp 7, .tmp 8]) := by kernel_rfl
/-- head: [0, 10, 11, 12, 13] -/
def spec_YearsSeen_l0 : ACode := (.seq (.seq (.reg [⟨(some 43), .move (.tmp 13), none⟩,
    ⟨(some 44), .move (.tmp 12), none⟩,
    ⟨(some 45), .call ⟨.builtin .len, #[(.tmp 44)], #[30]⟩, none⟩,
    ⟨(some 46), .binOp .lss 3 (.tmp 43) (.tmp 45) 3, none⟩] [0, 10, 11, 12, 13, 46])
  (.cond (.tmp 46) .skip
  (.exit 0)))
  (.seq (.block 1 (.seq (.reg [⟨(some 49), .move (.tmp 10), none⟩,
    ⟨(some 50), .move (.tmp 0), none⟩,
    ⟨(some 51), .move (.tmp 12), none⟩,
    ⟨(some 52), .move (.tmp 13), none⟩,
    ⟨(some 53), .indexAddr 30 (.tmp 51) (.tmp 52), none⟩,
    ⟨(some 54), .load 3 (.tmp 53), none⟩,
    ⟨(some 55), .indexAddr 24 (.tmp 50) (.tmp 54), none⟩,
    ⟨(some 56), .fieldAddr 32 (.tmp 55) 1, none⟩,
    ⟨(some 57), .load 3 (.tmp 56), none⟩,
    ⟨(some 58), .call ⟨.value (.func 49), #[(.tmp 49), (.tmp 57)], #[3, 3]⟩, none⟩,
    ⟨(some 10), .assign (.tmp 58), none⟩] [0, 10, 11, 12, 13])
  (.reg [⟨(some 59), .move (.tmp 11), none⟩,
    ⟨(some 60), .move (.tmp 0), none⟩,
    ⟨(some 61), .move (.tmp 12), none⟩,
    ⟨(some 62), .move (.tmp 13), none⟩,
    ⟨(some 63), .indexAddr 30 (.tmp 61) (.tmp 62), none⟩,
    ⟨(some 64), .load 3 (.tmp 63), none⟩,
    ⟨(some 65), .indexAddr 24 (.tmp 60) (.tmp 64), none⟩,
    ⟨(some 66), .fieldAddr 32 (.tmp 65) 1, none⟩,
    ⟨(some 67), .load 3 (.tmp 66), none⟩,
    ⟨(some 68), .call ⟨.value (.func 50), #[(.tmp 59), (.tmp 67)], #[3, 3]⟩, none⟩,
    ⟨(some 11), .assign (.tmp 68), none⟩] [0, 10, 11, 12, 13])))
  (.reg [⟨(some 47), .move (.tmp 13), none⟩,
    ⟨(some 48), .binOp .add 3 (.tmp 47) (.const (.int .i64 1)) 3, none⟩,
    ⟨(some 13), .assign (.tmp 48), none⟩] [0, 10, 11, 12, 13])))
/-- loop.example/g01062/spec.YearsSeen: number 18, params [0, 1, 2] -/
def spec_YearsSeen_c : ACode := (.seq (.reg [⟨(some 6), .assign (.const (.int .i64 0)), none⟩,
    ⟨(some 7), .assign (.const (.int .i64 0)), none⟩,
    ⟨(some 8), .assign (.const (.bool false)), none⟩] [0, 1, 2])
  (.seq (.reg [⟨(some 14), .move (.tmp 0), none⟩,
    ⟨(some 15), .move (.tmp 2), none⟩,
    ⟨(some 16), .call ⟨.value (.func 47), #[(.tmp 14), (.tmp 15)], #[24, 3]⟩, none⟩,
    ⟨(some 9), .assign (.tmp 16), none⟩] [0, 1, 9])
  (.seq (.seq (.reg [⟨(some 17), .move (.tmp 0), none⟩,
    ⟨(some 18), .call ⟨.value (.func 30), #[(.tmp 17)], #[24]⟩, none⟩,
    ⟨(some 19), .unOp .not 4 (.tmp 18), none⟩,
    ⟨(some 20), .move (.tmp 19), none⟩,
    ⟨(some 21), .move (.tmp 1), (some (some 20, false))⟩,
    ⟨(some 22), .call ⟨.value (.func 38), #[(.tmp 21)], #[3]⟩, (some (some 20, false))⟩,
    ⟨(some 23), .unOp .not 4 (.tmp 22), (some (some 20, false))⟩,
    ⟨(some 24), .pick (.tmp 20) (.const (.bool true)) (.tmp 23), none⟩,
    ⟨(some 25), .move (.tmp 24), none⟩,
    ⟨(some 26), .move (.tmp 9), (some (some 25, false))⟩,
    ⟨(some 27), .binOp .lss 3 (.tmp 26) (.const (.int .i64 0)) 3, (some (some 25, false))⟩,
    ⟨(some 28), .pick (.tmp 25) (.const (.bool true)) (.tmp 27), none⟩] [0, 1, 9, 28])
  (.cond (.tmp 28) (.seq (.reg [⟨(some 6), .assign (.const (.int .i64 0)), none⟩,
    ⟨(some 7), .assign (.const (.int .i64 0)), none⟩,
    ⟨(some 8), .assign (.const (.bool false)), none⟩] [6, 7, 8])
  .ret)
  .skip))
  (.seq (.regQ [⟨(some 29), .move (.tmp 0), none⟩,
    ⟨(some 30), .move (.tmp 9), none⟩,
    ⟨(some 31), .indexAddr 24 (.tmp 29) (.tmp 30), none⟩,
    ⟨(some 32), .fieldAddr 32 (.tmp 31) 1, none⟩,
    ⟨(some 33), .load 3 (.tmp 32), none⟩,
    ⟨(some 34), .move (.tmp 0), none⟩,
    ⟨(some 35), .move (.tmp 9), none⟩,
    ⟨(some 36), .indexAddr 24 (.tmp 34) (.tmp 35), none⟩,
    ⟨(some 37), .fieldAddr 32 (.tmp 36) 1, none⟩,
    ⟨(some 38), .load 3 (.tmp 37), none⟩,
    ⟨(some 10), .assign (.tmp 33), none⟩,
    ⟨(some 11), .assign (.tmp 38), none⟩] [0, 1, 9, 10, 11])
  (.seq (.reg [⟨(some 39), .move (.tmp 0), none⟩,
    ⟨(some 40), .move (.tmp 1), none⟩,
    ⟨(some 41), .move (.tmp 9), none⟩,
    ⟨(some 42), .call ⟨.value (.func 39), #[(.tmp 39), (.tmp 40), (.tmp 41)], #[24, 3, 3]⟩, none⟩,
    ⟨(some 12), .assign (.tmp 42), none⟩] [0, 10, 11, 12])
  (.seq (.seq (.reg [⟨(some 13), .assign (.const (.int .i64 0)), none⟩] [0, 10, 11, 12, 13])
  (.block 0 (.loop spec_YearsSeen_l0)))
  (.seq (.reg [⟨(some 69), .move (.tmp 10), none⟩,
    ⟨(some 70), .move (.tmp 11), none⟩,
    ⟨(some 6), .assign (.tmp 69), none⟩,
    ⟨(some 7), .assign (.tmp 70), none⟩,
    ⟨(some 8), .assign (.const (.bool true)), none⟩] [6, 7, 8])
  .ret)))))))
theorem spec_YearsSeen_k : fnOk Tryz.prog (fun _ => false) 18 = some (spec_YearsSeen_c.strip, 71, [.tmp 6, .tmp 7, .tmp 8]) := by kernel_rfl
/-- head: [0, 1, 5] -/
def laws_rHas_l0 : ACode := (.seq (.seq (.reg [⟨(some 6), .move (.tmp 5), none⟩,
    ⟨(some 7), .move (.tmp 0), none⟩,
    ⟨(some 8), .call ⟨.builtin .len, #[(.tmp 7)], #[30]⟩, none⟩,
    ⟨(some 9), .binOp .lss 3 (.tmp 6) (.tmp 8) 3, none⟩] [0, 1, 5, 9])
  (.cond (.tmp 9) .skip
  (.exit 0)))
  (.seq (.block 1 (.seq (.reg [⟨(some 12), .move (.tmp 0), none⟩,
    ⟨(some 13), .move (.tmp 5), none⟩,
    ⟨(some 14), .indexAddr 30 (.tmp 12) (.tmp 13), none⟩,
    ⟨(some 15), .load 3 (.tmp 14), none⟩,
    ⟨(some 16), .move (.tmp 1), none⟩,
    ⟨(some 17), .binOp .eql 3 (.tmp 15) (.tmp 16) 3, none⟩] [0, 1, 5, 17])
  (.cond (.tmp 17) (.seq (.reg [⟨(some 4), .assign (.const (.bool true)), none⟩] [4])
  .ret)
  .skip)))
  (.reg [⟨(some 10), .move (.tmp 5), none⟩,
    ⟨(some 11), .binOp .add 3 (.tmp 10) (.const (.int .i64 1)) 3, none⟩,
    ⟨(some 5), .assign (.tmp 11), none⟩] [0, 1, 5])))
/-- loop.example/g01062/laws.rHas: number 19, params [0, 1] -/
def laws_rHas_c : ACode := (.seq (.reg [⟨(some 4), .assign (.const (.bool false)), none⟩] [0, 1])
  (.seq (.seq (.reg [⟨(some 5), .assign (.const (.int .i64 0)), none⟩] [0, 1, 5])
  (.block 0 (.loop laws_rHas_l0)))
  (.seq (.reg [⟨(some 4), .assign (.const (.bool false)), none⟩] [4])
  .ret)))
theorem laws_rHas_k : fnOk Tryz.prog (fun _ => false) 19 = some (laws_rHas_c.strip, 18, [.tmp 4]) := by kernel_rfl
/-- loop.example/g01062/impl.AddSighting: number 21, params [0, 1, 2, 3] -/
def impl_AddSighting_c : ACode := (.seq (.reg [⟨(some 8), .assign (.const (.slice none 0 0)), none⟩,
    ⟨(some 9), .assign (.const (.int .i64 0)), none⟩,
    ⟨(some 10), .assign (.const (.bool false)), none⟩] [0, 1, 2, 3])
  (.seq (.seq (.reg [⟨(some 14), .move (.tmp 0), none⟩,
    ⟨(some 15), .call ⟨.value (.func 28), #[(.tmp 14)], #[24]⟩, none⟩,
    ⟨(some 16), .unOp .not 4 (.tmp 15), none⟩] [0, 1, 2, 3, 16])
  (.cond (.tmp 16) (.seq (.reg [⟨(some 8), .assign (.const (.slice none 0 0)), none⟩,
    ⟨(some 9), .assign (.const (.int .i64 0)), none⟩,
    ⟨(some 10), .assign (.const (.bool false)), none⟩] [8, 9, 10])
  .ret)
  .skip))
  (.seq (.reg [⟨(some 11), .assign (.const (.int .i64 1)), none⟩] [0, 1, 2, 3, 11])
  (.seq (.seq (.reg [⟨(some 17), .move (.tmp 0), none⟩,
    ⟨(some 18), .call ⟨.builtin .len, #[(.tmp 17)], #[24]⟩, none⟩,
    ⟨(some 12), .assign (.tmp 18), none⟩] [0, 1, 2, 3, 11, 12])
  (.seq (.reg [⟨(some 19), .move (.tmp 12), none⟩,
    ⟨(some 20), .binOp .gtr 3 (.tmp 19) (.const (.int .i64 0)) 3, none⟩] [0, 1, 2, 3, 11, 12, 20])
  (.cond (.tmp 20) (.reg [⟨(some 21), .move (.tmp 0), none⟩,
    ⟨(some 22), .move (.tmp 12), none⟩,
    ⟨(some 23), .binOp .sub 3 (.tmp 22) (.const (.int .i64 1)) 3, none⟩,
    ⟨(some 24), .indexAddr 24 (.tmp 21) (.tmp 23), none⟩,
    ⟨(some 25), .fieldAddr 32 (.tmp 24) 0, none⟩,
    ⟨(some 26), .load 3 (.tmp 25), none⟩,
    ⟨(some 27), .binOp .add 3 (.tmp 26) (.const (.int .i64 1)) 3, none⟩,
    ⟨(some 11), .assign (.tmp 27), none⟩] [0, 1, 2, 3, 11])
  .skip)))
  (.seq (.reg [⟨(some 28), .move (.tmp 0), none⟩,
    ⟨(some 29), .call ⟨.value (.func 52), #[(.tmp 28)], #[24]⟩, none⟩,
    ⟨(some 30), .move (.tmp 11), none⟩,
    ⟨(some 31), .move (.tmp 1), none⟩,
    ⟨(some 32), .move (.tmp 2), none⟩,
    ⟨(some 33), .move (.tmp 3), none⟩,
    ⟨(some 34), .call ⟨.value (.func 53), #[(.tmp 33)], #[30]⟩, none⟩,
    ⟨(some 35), .build 32 #[(0, (.tmp 30)), (1, (.tmp 31)), (2, (.tmp 32)), (3, (.tmp 34))], none⟩,
    ⟨(some 36), .buildSlice 24 1 #[(0, (.tmp 35))], none⟩,
    ⟨(some 37), .call ⟨.builtin .append, #[(.tmp 29), (.tmp 36)], #[24, 24]⟩, none⟩,
    ⟨(some 13), .assign (.tmp 37), none⟩] [11, 13])
  (.seq (.seq (.reg [⟨(some 38), .move (.tmp 13), none⟩,
    ⟨(some 39), .call ⟨.value (.func 28), #[(.tmp 38)], #[24]⟩, none⟩,
    ⟨(some 40), .unOp .not 4 (.tmp 39), none⟩] [11, 13, 40])
  (.cond (.tmp 40) (.seq (.reg [⟨(some 8), .assign (.const (.slice none 0 0)), none⟩,
    ⟨(some 9), .assign (.const (.int .i64 0)), none⟩,
    ⟨(some 10), .assign (.const (.bool false)), none⟩] [8, 9, 10])
  .ret)
  .skip))
  (.seq (.reg [⟨(some 41), .move (.tmp 13), none⟩,
    ⟨(some 42), .move (.tmp 11), none⟩,
    ⟨(some 8), .assign (.tmp 41), none⟩,
    ⟨(some 9), .assign (.tmp 42), none⟩,
    ⟨(some 10), .assign (.const (.bool true)), none⟩] [8, 9, 10])
  .ret)))))))
theorem impl_AddSighting_k : fnOk Tryz.prog (fun _ => false) 21 = some (impl_AddSighting_c.strip, 43, [.tmp 8, .tmp 9, .tmp 10]) := by kernel_rfl
/-- head: [0, 1, 2, 3, 11, 13, 14] -/
def spec_AddSighting_l0 : ACode := (.seq (.seq (.reg [⟨(some 28), .move (.tmp 14), none⟩,
    ⟨(some 29), .move (.tmp 0), none⟩,
    ⟨(some 30), .call ⟨.builtin .len, #[(.tmp 29)], #[24]⟩, none⟩,
    ⟨(some 31), .binOp .lss 3 (.tmp 28) (.tmp 30) 3, none⟩] [0, 1, 2, 3, 11, 13, 14, 31])
  (.cond (.tmp 31) .skip
  (.exit 0)))
  (.seq (.block 1 (.seq (.reg [⟨(some 34), .move (.tmp 0), none⟩,
    ⟨(some 35), .move (.tmp 14), none⟩,
    ⟨(some 36), .indexAddr 24 (.tmp 34) (.tmp 35), none⟩,
    ⟨(some 37), .load 32 (.tmp 36), none⟩,
    ⟨(some 15), .alloc 32, none⟩,
    ⟨none, .store 32 (.tmp 15) (.tmp 37), none⟩] [0, 1, 2, 3, 11, 13, 14, 15])
  (.seq (.reg [⟨(some 38), .fieldAddr 32 (.tmp 15) 3, none⟩,
    ⟨(some 39), .load 30 (.tmp 38), none⟩,
    ⟨(some 40), .call ⟨.value (.func 54), #[(.tmp 39)], #[30]⟩, none⟩,
    ⟨(some 41), .fieldAddr 32 (.tmp 15) 3, none⟩,
    ⟨none, .store 30 (.tmp 41) (.tmp 40), none⟩] [0, 1, 2, 3, 11, 13, 14, 15])
  (.reg [⟨(some 42), .move (.tmp 13), none⟩,
    ⟨(some 43), .load 32 (.tmp 15), none⟩,
    ⟨(some 44), .buildSlice 24 1 #[(0, (.tmp 43))], none⟩,
    ⟨(some 45), .call ⟨.builtin .append, #[(.tmp 42), (.tmp 44)], #[24, 24]⟩, none⟩,
    ⟨(some 13), .assign (.tmp 45), none⟩] [0, 1, 2, 3, 11, 13, 14]))))
  (.reg [⟨(some 32), .move (.tmp 14), none⟩,
    ⟨(some 33), .binOp .add 3 (.tmp 32) (.const (.int .i64 1)) 3, none⟩,
    ⟨(some 14), .assign (.tmp 33), none⟩] [0, 1, 2, 3, 11, 13, 14])))
/-- loop.example/g01062/spec.AddSighting: number 22, params [0, 1, 2, 3] -/
def spec_AddSighting_c : ACode := (.seq (.reg [⟨(some 8), .assign (.const (.slice none 0 0)), none⟩,
    ⟨(some 9), .assign (.const (.int .i64 0)), none⟩,
    ⟨(some 10), .assign (.const (.bool false)), none⟩] [0, 1, 2, 3])
  (.seq (.reg [⟨(some 11), .assign (.const (.int .i64 1)), none⟩] [0, 1, 2, 3, 11])
  (.seq (.seq (.reg [⟨(some 16), .move (.tmp 0), none⟩,
    ⟨(some 17), .call ⟨.builtin .len, #[(.tmp 16)], #[24]⟩, none⟩,
    ⟨(some 12), .assign (.tmp 17), none⟩] [0, 1, 2, 3, 11, 12])
  (.seq (.reg [⟨(some 18), .move (.tmp 12), none⟩,
    ⟨(some 19), .binOp .gtr 3 (.tmp 18) (.const (.int .i64 0)) 3, none⟩] [0, 1, 2, 3, 11, 12, 19])
  (.cond (.tmp 19) (.reg [⟨(some 20), .move (.tmp 0), none⟩,
    ⟨(some 21), .move (.tmp 12), none⟩,
    ⟨(some 22), .binOp .sub 3 (.tmp 21) (.const (.int .i64 1)) 3, none⟩,
    ⟨(some 23), .indexAddr 24 (.tmp 20) (.tmp 22), none⟩,
    ⟨(some 24), .fieldAddr 32 (.tmp 23) 0, none⟩,
    ⟨(some 25), .load 3 (.tmp 24), none⟩,
    ⟨(some 26), .binOp .add 3 (.tmp 25) (.const (.int .i64 1)) 3, none⟩,
    ⟨(some 11), .assign (.tmp 26), none⟩] [0, 1, 2, 3, 11])
  .skip)))
  (.seq (.reg [⟨(some 27), .buildSlice 24 0 #[], none⟩,
    ⟨(some 13), .assign (.tmp 27), none⟩] [0, 1, 2, 3, 11, 13])
  (.seq (.seq (.reg [⟨(some 14), .assign (.const (.int .i64 0)), none⟩] [0, 1, 2, 3, 11, 13, 14])
  (.block 0 (.loop spec_AddSighting_l0)))
  (.seq (.reg [⟨(some 46), .move (.tmp 13), none⟩,
    ⟨(some 47), .move (.tmp 11), none⟩,
    ⟨(some 48), .move (.tmp 1), none⟩,
    ⟨(some 49), .move (.tmp 2), none⟩,
    ⟨(some 50), .move (.tmp 3), none⟩,
    ⟨(some 51), .call ⟨.value (.func 54), #[(.tmp 50)], #[30]⟩, none⟩,
    ⟨(some 52), .build 32 #[(0, (.tmp 47)), (1, (.tmp 48)), (2, (.tmp 49)), (3, (.tmp 51))], none⟩,
    ⟨(some 53), .buildSlice 24 1 #[(0, (.tmp 52))], none⟩,
    ⟨(some 54), .call ⟨.builtin .append, #[(.tmp 46), (.tmp 53)], #[24, 24]⟩, none⟩,
    ⟨(some 13), .assign (.tmp 54), none⟩] [0, 11, 13])
  (.seq (.seq (.reg [⟨(some 55), .move (.tmp 0), none⟩,
    ⟨(some 56), .call ⟨.value (.func 30), #[(.tmp 55)], #[24]⟩, none⟩,
    ⟨(some 57), .unOp .not 4 (.tmp 56), none⟩,
    ⟨(some 58), .move (.tmp 57), none⟩,
    ⟨(some 59), .move (.tmp 13), (some (some 58, false))⟩,
    ⟨(some 60), .call ⟨.value (.func 30), #[(.tmp 59)], #[24]⟩, (some (some 58, false))⟩,
    ⟨(some 61), .unOp .not 4 (.tmp 60), (some (some 58, false))⟩,
    ⟨(some 62), .pick (.tmp 58) (.const (.bool true)) (.tmp 61), none⟩] [11, 13, 62])
  (.cond (.tmp 62) (.seq (.reg [⟨(some 63), .buildSlice 24 0 #[], none⟩,
    ⟨(some 8), .assign (.tmp 63), none⟩,
    ⟨(some 9), .assign (.const (.int .i64 0)), none⟩,
    ⟨(some 10), .assign (.const (.bool false)), none⟩] [8, 9, 10])
  .ret)
  .skip))
  (.seq (.reg [⟨(some 64), .move (.tmp 13), none⟩,
    ⟨(some 65), .move (.tmp 11), none⟩,
    ⟨(some 8), .assign (.tmp 64), none⟩,
    ⟨(some 9), .assign (.tmp 65), none⟩,
    ⟨(some 10), .assign (.const (.bool true)), none⟩] [8, 9, 10])
  .ret))))))))
theorem spec_AddSighting_k : fnOk Tryz.prog (fun _ => false) 22 = some (spec_AddSighting_c.strip, 66, [.tmp 8, .tmp 9, .tmp 10]) := by kernel_rfl
/-- head: [4, 24, 25, 26] -/
def impl_SightingText_l0 : ACode := (.seq (.reg [⟨(some 27), .binOp .lss 3 (.tmp 26) (.tmp 25) 3, none⟩] [4, 24, 25, 26, 27])
  (.seq (.cond (.tmp 27) .skip
  (.exit 0))
  (.seq (.block 1 (.seq (.reg [⟨(some 28), .indexAddr 30 (.tmp 24) (.tmp 26), none⟩,
    ⟨(some 29), .load 3 (.tmp 28), none⟩,
    ⟨(some 6), .assign (.tmp 29), none⟩] [4, 6, 24, 25, 26])
  (.reg [⟨(some 30), .move (.tmp 4), none⟩,
    ⟨(some 31), .move (.tmp 6), none⟩,
    ⟨(some 32), .call ⟨.value (.func 56), #[(.tmp 31)], #[3]⟩, none⟩,
    ⟨(some 33), .binOp .add 9 (.const (.string ⟨#[32, 35]⟩)) (.tmp 32) 9, none⟩,
    ⟨(some 34), .binOp .add 9 (.tmp 30) (.tmp 33) 9, none⟩,
    ⟨(some 4), .assign (.tmp 34), none⟩] [4, 24, 25, 26])))
  (.reg [⟨(some 35), .binOp .add 3 (.tmp 26) (.const (.int .i64 1)) 3, none⟩,
    ⟨(some 26), .move (.tmp 35), none⟩] [4, 24, 25, 26]))))
/-- loop.example/g01062/impl.SightingText: number 24, params [0] -/
def impl_SightingText_c : ACode := (.seq (.reg [⟨(some 1), .box 32 (.tmp 0), none⟩,
    ⟨(some 2), .assign (.const (.string ⟨#[]⟩)), none⟩,
    ⟨(some 3), .assign (.const (.bool false)), none⟩] [1])
  (.seq (.seq (.reg [⟨(some 7), .load 32 (.tmp 1), none⟩,
    ⟨(some 8), .buildSlice 24 1 #[(0, (.tmp 7))], none⟩,
    ⟨(some 9), .call ⟨.value (.func 28), #[(.tmp 8)], #[24]⟩, none⟩,
    ⟨(some 10), .unOp .not 4 (.tmp 9), none⟩] [1, 10])
  (.cond (.tmp 10) (.seq (.reg [⟨(some 2), .assign (.const (.string ⟨#[]⟩)), none⟩,
    ⟨(some 3), .assign (.const (.bool false)), none⟩] [2, 3])
  .ret)
  .skip))
  (.seq (.regQ [⟨(some 11), .fieldAddr 32 (.tmp 1) 0, none⟩,
    ⟨(some 12), .load 3 (.tmp 11), none⟩,
    ⟨(some 13), .call ⟨.value (.func 56), #[(.tmp 12)], #[3]⟩, none⟩,
    ⟨(some 14), .binOp .add 9 (.tmp 13) (.const (.string ⟨#[32]⟩)) 9, none⟩,
    ⟨(some 15), .fieldAddr 32 (.tmp 1) 2, none⟩,
    ⟨(some 16), .load 9 (.tmp 15), none⟩,
    ⟨(some 17), .binOp .add 9 (.tmp 14) (.tmp 16) 9, none⟩,
    ⟨(some 18), .binOp .add 9 (.tmp 17) (.const (.string ⟨#[32]⟩)) 9, none⟩,
    ⟨(some 19), .fieldAddr 32 (.tmp 1) 1, none⟩,
    ⟨(some 20), .load 3 (.tmp 19), none⟩,
    ⟨(some 21), .call ⟨.value (.func 56), #[(.tmp 20)], #[3]⟩, none⟩,
    ⟨(some 22), .binOp .add 9 (.tmp 18) (.tmp 21) 9, none⟩,
    ⟨(some 4), .assign (.tmp 22), none⟩] [1, 4])
  (.seq (.seq (.reg [⟨(some 23), .fieldAddr 32 (.tmp 1) 3, none⟩,
    ⟨(some 24), .load 30 (.tmp 23), none⟩,
    ⟨(some 25), .call ⟨.builtin .len, #[(.tmp 24)], #[30]⟩, none⟩,
    ⟨(some 26), .move (.const (.int .i64 0)), none⟩] [4, 24, 25, 26])
  (.block 0 (.loop impl_SightingText_l0)))
  (.seq (.reg [⟨(some 36), .move (.tmp 4), none⟩,
    ⟨(some 2), .assign (.tmp 36), none⟩,
    ⟨(some 3), .assign (.const (.bool true)), none⟩] [2, 3])
  .ret)))))
theorem impl_SightingText_k : fnOk Tryz.prog (fun _ => false) 24 = some (impl_SightingText_c.strip, 37, [.tmp 2, .tmp 3]) := by kernel_rfl
/-- head: [1, 4, 5] -/
def spec_SightingText_l0 : ACode := (.seq (.seq (.reg [⟨(some 21), .move (.tmp 5), none⟩,
    ⟨(some 22), .fieldAddr 32 (.tmp 1) 3, none⟩,
    ⟨(some 23), .load 30 (.tmp 22), none⟩,
    ⟨(some 24), .call ⟨.builtin .len, #[(.tmp 23)], #[30]⟩, none⟩,
    ⟨(some 25), .binOp .lss 3 (.tmp 21) (.tmp 24) 3, none⟩] [1, 4, 5, 25])
  (.cond (.tmp 25) .skip
  (.exit 0)))
  (.seq (.block 1 (.reg [⟨(some 28), .move (.tmp 4), none⟩,
    ⟨(some 29), .binOp .add 9 (.tmp 28) (.const (.string ⟨#[32, 35]⟩)) 9, none⟩,
    ⟨(some 30), .fieldAddr 32 (.tmp 1) 3, none⟩,
    ⟨(some 31), .load 30 (.tmp 30), none⟩,
    ⟨(some 32), .move (.tmp 5), none⟩,
    ⟨(some 33), .indexAddr 30 (.tmp 31) (.tmp 32), none⟩,
    ⟨(some 34), .load 3 (.tmp 33), none⟩,
    ⟨(some 35), .call ⟨.value (.func 58), #[(.tmp 34)], #[3]⟩, none⟩,
    ⟨(some 36), .binOp .add 9 (.tmp 29) (.tmp 35) 9, none⟩,
    ⟨(some 4), .assign (.tmp 36), none⟩] [1, 4, 5]))
  (.reg [⟨(some 26), .move (.tmp 5), none⟩,
    ⟨(some 27), .binOp .add 3 (.tmp 26) (.const (.int .i64 1)) 3, none⟩,
    ⟨(some 5), .assign (.tmp 27), none⟩] [1, 4, 5])))
/-- loop.example/g01062/spec.SightingText: number 25, params [0] -/
def spec_SightingText_c : ACode := (.seq (.reg [⟨(some 1), .box 32 (.tmp 0), none⟩,
    ⟨(some 2), .assign (.const (.string ⟨#[]⟩)), none⟩,
    ⟨(some 3), .assign (.const (.bool false)), none⟩] [1])
  (.seq (.seq (.reg [⟨(some 6), .load 32 (.tmp 1), none⟩,
    ⟨(some 7), .call ⟨.value (.func 57), #[(.tmp 6)], #[32]⟩, none⟩,
    ⟨(some 8), .unOp .not 4 (.tmp 7), none⟩] [1, 8])
  (.cond (.tmp 8) (.seq (.reg [⟨(some 2), .assign (.const (.string ⟨#[]⟩)), none⟩,
    ⟨(some 3), .assign (.const (.bool false)), none⟩] [2, 3])
  .ret)
  .skip))
  (.seq (.regQ [⟨(some 9), .fieldAddr 32 (.tmp 1) 0, none⟩,
    ⟨(some 10), .load 3 (.tmp 9), none⟩,
    ⟨(some 11), .call ⟨.value (.func 58), #[(.tmp 10)], #[3]⟩, none⟩,
    ⟨(some 12), .binOp .add 9 (.tmp 11) (.const (.string ⟨#[32]⟩)) 9, none⟩,
    ⟨(some 13), .fieldAddr 32 (.tmp 1) 2, none⟩,
    ⟨(some 14), .load 9 (.tmp 13), none⟩,
    ⟨(some 15), .binOp .add 9 (.tmp 12) (.tmp 14) 9, none⟩,
    ⟨(some 16), .binOp .add 9 (.tmp 15) (.const (.string ⟨#[32]⟩)) 9, none⟩,
    ⟨(some 17), .fieldAddr 32 (.tmp 1) 1, none⟩,
    ⟨(some 18), .load 3 (.tmp 17), none⟩,
    ⟨(some 19), .call ⟨.value (.func 58), #[(.tmp 18)], #[3]⟩, none⟩,
    ⟨(some 20), .binOp .add 9 (.tmp 16) (.tmp 19) 9, none⟩,
    ⟨(some 4), .assign (.tmp 20), none⟩] [1, 4])
  (.seq (.seq (.reg [⟨(some 5), .assign (.const (.int .i64 0)), none⟩] [1, 4, 5])
  (.block 0 (.loop spec_SightingText_l0)))
  (.seq (.reg [⟨(some 37), .move (.tmp 4), none⟩,
    ⟨(some 2), .assign (.tmp 37), none⟩,
    ⟨(some 3), .assign (.const (.bool true)), none⟩] [2, 3])
  .ret)))))
theorem spec_SightingText_k : fnOk Tryz.prog (fun _ => false) 25 = some (spec_SightingText_c.strip, 38, [.tmp 2, .tmp 3]) := by kernel_rfl
/-- head: [0, 1, 5] -/
def laws_rSightings_l0 : ACode := (.seq (.seq (.reg [⟨(some 11), .move (.tmp 5), none⟩,
    ⟨(some 12), .move (.tmp 0), none⟩,
    ⟨(some 13), .call ⟨.builtin .len, #[(.tmp 12)], #[24]⟩, none⟩,
    ⟨(some 14), .binOp .lss 3 (.tmp 11) (.tmp 13) 3, none⟩] [0, 1, 5, 14])
  (.cond (.tmp 14) .skip
  (.exit 0)))
  (.seq (.block 1 (.seq (.regQ [⟨(some 17), .move (.tmp 0), none⟩,
    ⟨(some 18), .move (.tmp 5), none⟩,
    ⟨(some 19), .indexAddr 24 (.tmp 17) (.tmp 18), none⟩,
    ⟨(some 20), .fieldAddr 32 (.tmp 19) 0, none⟩,
    ⟨(some 21), .load 3 (.tmp 20), none⟩,
    ⟨(some 22), .move (.tmp 1), none⟩,
    ⟨(some 23), .move (.tmp 5), none⟩,
    ⟨(some 24), .indexAddr 24 (.tmp 22) (.tmp 23), none⟩,
    ⟨(some 25), .fieldAddr 32 (.tmp 24) 0, none⟩,
    ⟨(some 26), .load 3 (.tmp 25), none⟩,
    ⟨(some 27), .binOp .neq 3 (.tmp 21) (.tmp 26) 3, none⟩,
    ⟨(some 28), .move (.tmp 27), none⟩,
    ⟨(some 29), .move (.tmp 0), (some (some 28, false))⟩,
    ⟨(some 30), .move (.tmp 5), (some (some 28, false))⟩,
    ⟨(some 31), .indexAddr 24 (.tmp 29) (.tmp 30), (some (some 28, false))⟩,
    ⟨(some 32), .fieldAddr 32 (.tmp 31) 1, (some (some 28, false))⟩,
    ⟨(some 33), .load 3 (.tmp 32), (some (some 28, false))⟩,
    ⟨(some 34), .move (.tmp 1), (some (some 28, false))⟩,
    ⟨(some 35), .move (.tmp 5), (some (some 28, false))⟩,
    ⟨(some 36), .indexAddr 24 (.tmp 34) (.tmp 35), (some (some 28, false))⟩,
    ⟨(some 37), .fieldAddr 32 (.tmp 36) 1, (some (some 28, false))⟩,
    ⟨(some 38), .load 3 (.tmp 37), (some (some 28, false))⟩,
    ⟨(some 39), .binOp .neq 3 (.tmp 33) (.tmp 38) 3, (some (some 28, false))⟩,
    ⟨(some 40), .pick (.tmp 28) (.const (.bool true)) (.tmp 39), none⟩,
    ⟨(some 41), .move (.tmp 40), none⟩,
    ⟨(some 42), .move (.tmp 0), (some (some 41, false))⟩,
    ⟨(some 43), .move (.tmp 5), (some (some 41, false))⟩,
    ⟨(some 44), .indexAddr 24 (.tmp 42) (.tmp 43), (some (some 41, false))⟩,
    ⟨(some 45), .fieldAddr 32 (.tmp 44) 2, (some (some 41, false))⟩,
    ⟨(some 46), .load 9 (.tmp 45), (some (some 41, false))⟩,
    ⟨(some 47), .move (.tmp 1), (some (some 41, false))⟩,
    ⟨(some 48), .move (.tmp 5), (some (some 41, false))⟩,
    ⟨(some 49), .indexAddr 24 (.tmp 47) (.tmp 48), (some (some 41, false))⟩,
    ⟨(some 50), .fieldAddr 32 (.tmp 49) 2, (some (some 41, false))⟩,
    ⟨(some 51), .load 9 (.tmp 50), (some (some 41, false))⟩,
    ⟨(some 52), .binOp .neq 9 (.tmp 46) (.tmp 51) 9, (some (some 41, false))⟩,
    ⟨(some 53), .pick (.tmp 41) (.const (.bool true)) (.tmp 52), none⟩,
    ⟨(some 54), .move (.tmp 53), none⟩,
    ⟨(some 55), .move (.tmp 0), (some (some 54, false))⟩,
    ⟨(some 56), .move (.tmp 5), (some (some 54, false))⟩,
    ⟨(some 57), .indexAddr 24 (.tmp 55) (.tmp 56), (some (some 54, false))⟩,
    ⟨(some 58), .fieldAddr 32 (.tmp 57) 3, (some (some 54, false))⟩,
    ⟨(some 59), .load 30 (.tmp 58), (some (some 54, false))⟩,
    ⟨(some 60), .move (.tmp 1), (some (some 54, false))⟩,
    ⟨(some 61), .move (.tmp 5), (some (some 54, false))⟩,
    ⟨(some 62), .indexAddr 24 (.tmp 60) (.tmp 61), (some (some 54, false))⟩,
    ⟨(some 63), .fieldAddr 32 (.tmp 62) 3, (some (some 54, false))⟩,
    ⟨(some 64), .load 30 (.tmp 63), (some (some 54, false))⟩,
    ⟨(some 65), .call ⟨.value (.func 16), #[(.tmp 59), (.tmp 64)], #[30, 30]⟩, (some (some 54, false))⟩,
    ⟨(some 66), .unOp .not 4 (.tmp 65), (some (some 54, false))⟩,
    ⟨(some 67), .pick (.tmp 54) (.const (.bool true)) (.tmp 66), none⟩] [0, 1, 5, 67])
  (.cond (.tmp 67) (.seq (.reg [⟨(some 4), .assign (.const (.bool false)), none⟩] [4])
  .ret)
  .skip)))
  (.reg [⟨(some 15), .move (.tmp 5), none⟩,
    ⟨(some 16), .binOp .add 3 (.tmp 15) (.const (.int .i64 1)) 3, none⟩,
    ⟨(some 5), .assign (.tmp 16), none⟩] [0, 1, 5])))
/-- loop.example/g01062/laws.rSightings: number 26, params [0, 1] -/
def laws_rSightings_c : ACode := (.seq (.reg [⟨(some 4), .assign (.const (.bool false)), none⟩] [0, 1])
  (.seq (.seq (.reg [⟨(some 6), .move (.tmp 0), none⟩,
    ⟨(some 7), .call ⟨.builtin .len, #[(.tmp 6)], #[24]⟩, none⟩,
    ⟨(some 8), .move (.tmp 1), none⟩,
    ⟨(some 9), .call ⟨.builtin .len, #[(.tmp 8)], #[24]⟩, none⟩,
    ⟨(some 10), .binOp .neq 3 (.tmp 7) (.tmp 9) 3, none⟩] [0, 1, 10])
  (.cond (.tmp 10) (.seq (.reg [⟨(some 4), .assign (.const (.bool false)), none⟩] [4])
  .ret)
  .skip))
  (.seq (.seq (.reg [⟨(some 5), .assign (.const (.int .i64 0)), none⟩] [0, 1, 5])
  (.block 0 (.loop laws_rSightings_l0)))
  (.seq (.reg [⟨(some 4), .assign (.const (.bool true)), none⟩] [4])
  .ret))))
theorem laws_rSightings_k : fnOk Tryz.prog (fun _ => false) 26 = some (laws_rSightings_c.strip, 68, [.tmp 4]) := by kernel_rfl
/-- head: [0, 7, 8, 9, 58, 59, 60] -/
def impl_areSightings_l0 : ACode := (.seq (.reg [⟨(some 61), .binOp .lss 3 (.tmp 60) (.tmp 59) 3, none⟩] [0, 7, 8, 9, 58, 59, 60, 61])
  (.seq (.cond (.tmp 61) .skip
  (.exit 2))
  (.seq (.block 3 (.seq (.reg [⟨(some 62), .indexAddr 30 (.tmp 58) (.tmp 60), none⟩,
    ⟨(some 63), .load 3 (.tmp 62), none⟩,
    ⟨(some 6), .assign (.tmp 63), none⟩] [0, 6, 7, 8, 9, 58, 59, 60])
  (.seq (.reg [⟨(some 64), .move (.tmp 6), none⟩,
    ⟨(some 65), .call ⟨.value (.func 34), #[(.tmp 64), (.const (.int .i64 1)), (.const (.int .i64 50))], #[3, 3, 3]⟩, none⟩,
    ⟨(some 66), .unOp .not 4 (.tmp 65), none⟩] [0, 7, 8, 9, 58, 59, 60, 66])
  (.cond (.tmp 66) (.seq (.reg [⟨(some 2), .assign (.const (.bool false)), none⟩] [2])
  .ret)
  .skip))))
  (.reg [⟨(some 67), .binOp .add 3 (.tmp 60) (.const (.int .i64 1)) 3, none⟩,
    ⟨(some 60), .move (.tmp 67), none⟩] [0, 7, 8, 9, 58, 59, 60]))))
/-- head: [0, 7, 8, 9] -/
def impl_areSightings_l1 : ACode := (.seq (.reg [⟨(some 10), .binOp .lss 3 (.tmp 9) (.tmp 8) 3, none⟩] [0, 7, 8, 9, 10])
  (.seq (.cond (.tmp 10) .skip
  (.exit 0))
  (.seq (.block 1 (.seq (.reg [⟨(some 11), .move (.tmp 9), none⟩,
    ⟨(some 12), .indexAddr 24 (.tmp 7) (.tmp 9), none⟩,
    ⟨(some 13), .load 32 (.tmp 12), none⟩,
    ⟨(some 4), .alloc 32, none⟩,
    ⟨(some 3), .assign (.tmp 11), none⟩,
    ⟨none, .store 32 (.tmp 4) (.tmp 13), none⟩] [0, 3, 4, 7, 8, 9])
  (.seq (.seq (.regQ [⟨(some 14), .fieldAddr 32 (.tmp 4) 0, none⟩,
    ⟨(some 15), .load 3 (.tmp 14), none⟩,
    ⟨(some 16), .call ⟨.value (.func 34), #[(.tmp 15), (.const (.int .i64 1)), (.const (.int .i64 999))], #[3, 3, 3]⟩, none⟩,
    ⟨(some 17), .unOp .not 4 (.tmp 16), none⟩,
    ⟨(some 18), .move (.tmp 17), none⟩,
    ⟨(some 19), .fieldAddr 32 (.tmp 4) 1, (some (some 18, false))⟩,
    ⟨(some 20), .load 3 (.tmp 19), (some (some 18, false))⟩,
    ⟨(some 21), .call ⟨.value (.func 34), #[(.tmp 20), (.const (.int .i64 1840)), (.const (.int .i64 2100))], #[3, 3, 3]⟩, (some (some 18, false))⟩,
    ⟨(some 22), .unOp .not 4 (.tmp 21), (some (some 18, false))⟩,
    ⟨(some 23), .pick (.tmp 18) (.const (.bool true)) (.tmp 22), none⟩,
    ⟨(some 24), .move (.tmp 23), none⟩,
    ⟨(some 25), .fieldAddr 32 (.tmp 4) 2, (some (some 24, false))⟩,
    ⟨(some 26), .load 9 (.tmp 25), (some (some 24, false))⟩,
    ⟨(some 27), .call ⟨.value (.func 59), #[(.tmp 26)], #[9]⟩, (some (some 24, false))⟩,
    ⟨(some 28), .unOp .not 4 (.tmp 27), (some (some 24, false))⟩,
    ⟨(some 29), .pick (.tmp 24) (.const (.bool true)) (.tmp 28), none⟩,
    ⟨(some 30), .move (.tmp 29), none⟩,
    ⟨(some 31), .fieldAddr 32 (.tmp 4) 3, (some (some 30, false))⟩,
    ⟨(some 32), .load 30 (.tmp 31), (some (some 30, false))⟩,
    ⟨(some 33), .call ⟨.builtin .len, #[(.tmp 32)], #[30]⟩, (some (some 30, false))⟩,
    ⟨(some 34), .binOp .gtr 3 (.tmp 33) (.const (.int .i64 8)) 3, (some (some 30, false))⟩,
    ⟨(some 35), .pick (.tmp 30) (.const (.bool true)) (.tmp 34), none⟩,
    ⟨(some 36), .move (.tmp 35), none⟩,
    ⟨(some 37), .fieldAddr 32 (.tmp 4) 3, (some (some 36, false))⟩,
    ⟨(some 38), .load 30 (.tmp 37), (some (some 36, false))⟩,
    ⟨(some 39), .call ⟨.value (.func 60), #[(.tmp 38)], #[30]⟩, (some (some 36, false))⟩,
    ⟨(some 40), .unOp .not 4 (.tmp 39), (some (some 36, false))⟩,
    ⟨(some 41), .pick (.tmp 36) (.const (.bool true)) (.tmp 40), none⟩,
    ⟨(some 42), .move (.tmp 41), none⟩,
    ⟨(some 43), .move (.tmp 3), (some (some 42, false))⟩,
    ⟨(some 44), .binOp .gtr 3 (.tmp 43) (.const (.int .i64 0)) 3, (some (some 42, false))⟩,
    ⟨(some 45), .move (.tmp 44), (some (some 42, false))⟩,
    ⟨(some 46), .move (.tmp 0), (some (some 45, true))⟩,
    ⟨(some 47), .move (.tmp 3), (some (some 45, true))⟩,
    ⟨(some 48), .binOp .sub 3 (.tmp 47) (.const (.int .i64 1)) 3, (some (some 45, true))⟩,
    ⟨(some 49), .indexAddr 24 (.tmp 46) (.tmp 48), (some (some 45, true))⟩,
    ⟨(some 50), .fieldAddr 32 (.tmp 49) 0, (some (some 45, true))⟩,
    ⟨(some 51), .load 3 (.tmp 50), (some (some 45, true))⟩,
    ⟨(some 52), .fieldAddr 32 (.tmp 4) 0, (some (some 45, true))⟩,
    ⟨(some 53), .load 3 (.tmp 52), (some (some 45, true))⟩,
    ⟨(some 54), .binOp .geq 3 (.tmp 51) (.tmp 53) 3, (some (some 45, true))⟩,
    ⟨(some 55), .pick (.tmp 45) (.tmp 54) (.const (.bool false)), (some (some 42, false))⟩,
    ⟨(some 56), .pick (.tmp 42) (.const (.bool true)) (.tmp 55), none⟩] [0, 4, 7, 8, 9, 56])
  (.cond (.tmp 56) (.seq (.reg [⟨(some 2), .assign (.const (.bool false)), none⟩] [2])
  .ret)
  .skip))
  (.seq (.reg [⟨(some 57), .fieldAddr 32 (.tmp 4) 3, none⟩,
    ⟨(some 58), .load 30 (.tmp 57), none⟩,
    ⟨(some 59), .call ⟨.builtin .len, #[(.tmp 58)], #[30]⟩, none⟩,
    ⟨(some 60), .move (.const (.int .i64 0)), none⟩] [0, 7, 8, 9, 58, 59, 60])
  (.block 2 (.loop impl_areSightings_l0))))))
  (.reg [⟨(some 68), .binOp .add 3 (.tmp 9) (.const (.int .i64 1)) 3, none⟩,
    ⟨(some 9), .move (.tmp 68), none⟩] [0, 7, 8, 9]))))
/-- loop.example/g01062/impl.areSightings: number 28, params [0] -/
def impl_areSightings_c : ACode := (.seq (.reg [⟨(some 2), .assign (.const (.bool false)), none⟩] [0])
  (.seq (.seq (.reg [⟨(some 7), .move (.tmp 0), none⟩,
    ⟨(some 8), .call ⟨.builtin .len, #[(.tmp 7)], #[24]⟩, none⟩,
    ⟨(some 9), .move (.const (.int .i64 0)), none⟩] [0, 7, 8, 9])
  (.block 0 (.loop impl_areSightings_l1)))
  (.seq (.reg [⟨(some 69), .move (.tmp 0), none⟩,
    ⟨(some 70), .call ⟨.builtin .len, #[(.tmp 69)], #[24]⟩, none⟩,
    ⟨(some 71), .binOp .leq 3 (.tmp 70) (.const (.int .i64 10)) 3, none⟩,
    ⟨(some 2), .assign (.tmp 71), none⟩] [2])
  .ret)))
theorem impl_areSightings_k : fnOk Tryz.prog (fun _ => false) 28 = some (impl_areSightings_c.strip, 72, [.tmp 2]) := by kernel_rfl
/-- head: [2, 3, 5, 10, 11, 12] -/
def impl_evidence_l0 : ACode := (.seq (.reg [⟨(some 13), .binOp .lss 3 (.tmp 12) (.tmp 11) 3, none⟩] [2, 3, 5, 10, 11, 12, 13])
  (.seq (.cond (.tmp 13) .skip
  (.exit 0))
  (.seq (.block 1 (.seq (.reg [⟨(some 14), .indexAddr 30 (.tmp 10) (.tmp 12), none⟩,
    ⟨(some 15), .load 3 (.tmp 14), none⟩,
    ⟨(some 7), .assign (.tmp 15), none⟩] [2, 3, 5, 7, 10, 11, 12])
  (.seq (.reg [⟨(some 16), .fieldAddr 32 (.tmp 3) 3, none⟩,
    ⟨(some 17), .load 30 (.tmp 16), none⟩,
    ⟨(some 18), .move (.tmp 7), none⟩,
    ⟨(some 19), .call ⟨.value (.func 61), #[(.tmp 17), (.tmp 18)], #[30, 3]⟩, none⟩] [2, 3, 5, 10, 11, 12, 19])
  (.cond (.tmp 19) (.reg [⟨(some 20), .move (.tmp 5), none⟩,
    ⟨(some 21), .binOp .add 3 (.tmp 20) (.const (.int .i64 1)) 3, none⟩,
    ⟨(some 5), .assign (.tmp 21), none⟩] [2, 3, 5, 10, 11, 12])
  .skip))))
  (.reg [⟨(some 22), .binOp .add 3 (.tmp 12) (.const (.int .i64 1)) 3, none⟩,
    ⟨(some 12), .move (.tmp 22), none⟩] [2, 3, 5, 10, 11, 12]))))
/-- loop.example/g01062/impl.evidence: number 29, params [0, 1] -/
def impl_evidence_c : ACode := (.seq (.reg [⟨(some 2), .box 32 (.tmp 0), none⟩,
    ⟨(some 3), .box 32 (.tmp 1), none⟩,
    ⟨(some 4), .assign (.const (.int .i64 0)), none⟩] [2, 3])
  (.seq (.reg [⟨(some 5), .assign (.const (.int .i64 0)), none⟩] [2, 3, 5])
  (.seq (.seq (.reg [⟨(some 9), .fieldAddr 32 (.tmp 2) 3, none⟩,
    ⟨(some 10), .load 30 (.tmp 9), none⟩,
    ⟨(some 11), .call ⟨.builtin .len, #[(.tmp 10)], #[30]⟩, none⟩,
    ⟨(some 12), .move (.const (.int .i64 0)), none⟩] [2, 3, 5, 10, 11, 12])
  (.block 0 (.loop impl_evidence_l0)))
  (.seq (.reg [⟨(some 23), .move (.tmp 5), none⟩,
    ⟨(some 24), .binOp .mul 3 (.const (.int .i64 4)) (.tmp 23) 3, none⟩,
    ⟨(some 25), .fieldAddr 32 (.tmp 2) 3, none⟩,
    ⟨(some 26), .load 30 (.tmp 25), none⟩,
    ⟨(some 27), .call ⟨.builtin .len, #[(.tmp 26)], #[30]⟩, none⟩,
    ⟨(some 28), .binOp .sub 3 (.tmp 24) (.tmp 27) 3, none⟩,
    ⟨(some 29), .fieldAddr 32 (.tmp 3) 3, none⟩,
    ⟨(some 30), .load 30 (.tmp 29), none⟩,
    ⟨(some 31), .call ⟨.builtin .len, #[(.tmp 30)], #[30]⟩, none⟩,
    ⟨(some 32), .binOp .sub 3 (.tmp 28) (.tmp 31) 3, none⟩,
    ⟨(some 8), .assign (.tmp 32), none⟩] [2, 3, 8])
  (.seq (.seq (.reg [⟨(some 33), .fieldAddr 32 (.tmp 2) 2, none⟩,
    ⟨(some 34), .load 9 (.tmp 33), none⟩,
    ⟨(some 35), .fieldAddr 32 (.tmp 3) 2, none⟩,
    ⟨(some 36), .load 9 (.tmp 35), none⟩,
    ⟨(some 37), .binOp .neq 9 (.tmp 34) (.tmp 36) 9, none⟩] [8, 37])
  (.cond (.tmp 37) (.reg [⟨(some 38), .move (.tmp 8), none⟩,
    ⟨(some 39), .binOp .sub 3 (.tmp 38) (.const (.int .i64 10)) 3, none⟩,
    ⟨(some 8), .assign (.tmp 39), none⟩] [8])
  .skip))
  (.seq (.reg [⟨(some 40), .move (.tmp 8), none⟩,
    ⟨(some 4), .assign (.tmp 40), none⟩] [4])
  .ret))))))
theorem impl_evidence_k : fnOk Tryz.prog (fun _ => false) 29 = some (impl_evidence_c.strip, 41, [.tmp 4]) := by kernel_rfl
/-- head: [0, 3] -/
def spec_l13Good_l0 : ACode := (.seq (.seq (.reg [⟨(some 4), .move (.tmp 3), none⟩,
    ⟨(some 5), .move (.tmp 0), none⟩,
    ⟨(some 6), .call ⟨.builtin .len, #[(.tmp 5)], #[24]⟩, none⟩,
    ⟨(some 7), .binOp .lss 3 (.tmp 4) (.tmp 6) 3, none⟩] [0, 3, 7])
  (.cond (.tmp 7) .skip
  (.exit 0)))
  (.seq (.block 1 (.seq (.regQ [⟨(some 10), .move (.tmp 0), none⟩,
    ⟨(some 11), .move (.tmp 3), none⟩,
    ⟨(some 12), .indexAddr 24 (.tmp 10) (.tmp 11), none⟩,
    ⟨(some 13), .load 32 (.tmp 12), none⟩,
    ⟨(some 14), .call ⟨.value (.func 57), #[(.tmp 13)], #[32]⟩, none⟩,
    ⟨(some 15), .unOp .not 4 (.tmp 14), none⟩,
    ⟨(some 16), .move (.tmp 15), none⟩,
    ⟨(some 17), .move (.tmp 3), (some (some 16, false))⟩,
    ⟨(some 18), .binOp .gtr 3 (.tmp 17) (.const (.int .i64 0)) 3, (some (some 16, false))⟩,
    ⟨(some 19), .move (.tmp 18), (some (some 16, false))⟩,
    ⟨(some 20), .move (.tmp 0), (some (some 19, true))⟩,
    ⟨(some 21), .move (.tmp 3), (some (some 19, true))⟩,
    ⟨(some 22), .binOp .sub 3 (.tmp 21) (.const (.int .i64 1)) 3, (some (some 19, true))⟩,
    ⟨(some 23), .indexAddr 24 (.tmp 20) (.tmp 22), (some (some 19, true))⟩,
    ⟨(some 24), .fieldAddr 32 (.tmp 23) 0, (some (some 19, true))⟩,
    ⟨(some 25), .load 3 (.tmp 24), (some (some 19, true))⟩,
    ⟨(some 26), .move (.tmp 0), (some (some 19, true))⟩,
    ⟨(some 27), .move (.tmp 3), (some (some 19, true))⟩,
    ⟨(some 28), .indexAddr 24 (.tmp 26) (.tmp 27), (some (some 19, true))⟩,
    ⟨(some 29), .fieldAddr 32 (.tmp 28) 0, (some (some 19, true))⟩,
    ⟨(some 30), .load 3 (.tmp 29), (some (some 19, true))⟩,
    ⟨(some 31), .binOp .geq 3 (.tmp 25) (.tmp 30) 3, (some (some 19, true))⟩,
    ⟨(some 32), .pick (.tmp 19) (.tmp 31) (.const (.bool false)), (some (some 16, false))⟩,
    ⟨(some 33), .pick (.tmp 16) (.const (.bool true)) (.tmp 32), none⟩] [0, 3, 33])
  (.cond (.tmp 33) (.seq (.reg [⟨(some 2), .assign (.const (.bool false)), none⟩] [2])
  .ret)
  .skip)))
  (.reg [⟨(some 8), .move (.tmp 3), none⟩,
    ⟨(some 9), .binOp .add 3 (.tmp 8) (.const (.int .i64 1)) 3, none⟩,
    ⟨(some 3), .assign (.tmp 9), none⟩] [0, 3])))
/-- loop.example/g01062/spec.l13Good: number 30, params [0] -/
def spec_l13Good_c : ACode := (.seq (.reg [⟨(some 2), .assign (.const (.bool false)), none⟩] [0])
  (.seq (.seq (.reg [⟨(some 3), .assign (.const (.int .i64 0)), none⟩] [0, 3])
  (.block 0 (.loop spec_l13Good_l0)))
  (.seq (.reg [⟨(some 34), .move (.tmp 0), none⟩,
    ⟨(some 35), .call ⟨.builtin .len, #[(.tmp 34)], #[24]⟩, none⟩,
    ⟨(some 36), .binOp .leq 3 (.tmp 35) (.const (.int .i64 10)) 3, none⟩,
    ⟨(some 2), .assign (.tmp 36), none⟩] [2])
  .ret)))
theorem spec_l13Good_k : fnOk Tryz.prog (fun _ => false) 30 = some (spec_l13Good_c.strip, 37, [.tmp 2]) := by kernel_rfl
/-- head: [2, 3, 5, 6] -/
def spec_l13Evidence_l0 : ACode := (.seq (.seq (.reg [⟨(some 8), .move (.tmp 6), none⟩,
    ⟨(some 9), .fieldAddr 32 (.tmp 2) 3, none⟩,
    ⟨(some 10), .load 30 (.tmp 9), none⟩,
    ⟨(some 11), .call ⟨.builtin .len, #[(.tmp 10)], #[30]⟩, none⟩,
    ⟨(some 12), .binOp .lss 3 (.tmp 8) (.tmp 11) 3, none⟩] [2, 3, 5, 6, 12])
  (.cond (.tmp 12) .skip
  (.exit 0)))
  (.seq (.block 1 (.seq (.regQ [⟨(some 15), .fieldAddr 32 (.tmp 3) 3, none⟩,
    ⟨(some 16), .load 30 (.tmp 15), none⟩,
    ⟨(some 17), .fieldAddr 32 (.tmp 2) 3, none⟩,
    ⟨(some 18), .load 30 (.tmp 17), none⟩,
    ⟨(some 19), .move (.tmp 6), none⟩,
    ⟨(some 20), .indexAddr 30 (.tmp 18) (.tmp 19), none⟩,
    ⟨(some 21), .load 3 (.tmp 20), none⟩,
    ⟨(some 22), .call ⟨.value (.func 40), #[(.tmp 16), (.tmp 21)], #[30, 3]⟩, none⟩] [2, 3, 5, 6, 22])
  (.cond (.tmp 22) (.reg [⟨(some 23), .move (.tmp 5), none⟩,
    ⟨(some 24), .binOp .add 3 (.tmp 23) (.const (.int .i64 1)) 3, none⟩,
    ⟨(some 5), .assign (.tmp 24), none⟩] [2, 3, 5, 6])
  .skip)))
  (.reg [⟨(some 13), .move (.tmp 6), none⟩,
    ⟨(some 14), .binOp .add 3 (.tmp 13) (.const (.int .i64 1)) 3, none⟩,
    ⟨(some 6), .assign (.tmp 14), none⟩] [2, 3, 5, 6])))
/-- loop.example/g01062/spec.l13Evidence: number 31, params [0, 1] -/
def spec_l13Evidence_c : ACode := (.seq (.reg [⟨(some 2), .box 32 (.tmp 0), none⟩,
    ⟨(some 3), .box 32 (.tmp 1), none⟩,
    ⟨(some 4), .assign (.const (.int .i64 0)), none⟩] [2, 3])
  (.seq (.reg [⟨(some 5), .assign (.const (.int .i64 0)), none⟩] [2, 3, 5])
  (.seq (.seq (.reg [⟨(some 6), .assign (.const (.int .i64 0)), none⟩] [2, 3, 5, 6])
  (.block 0 (.loop spec_l13Evidence_l0)))
  (.seq (.reg [⟨(some 25), .move (.tmp 5), none⟩,
    ⟨(some 26), .binOp .mul 3 (.const (.int .i64 2)) (.tmp 25) 3, none⟩,
    ⟨(some 27), .fieldAddr 32 (.tmp 2) 3, none⟩,
    ⟨(some 28), .load 30 (.tmp 27), none⟩,
    ⟨(some 29), .call ⟨.builtin .len, #[(.tmp 28)], #[30]⟩, none⟩,
    ⟨(some 30), .move (.tmp 5), none⟩,
    ⟨(some 31), .binOp .sub 3 (.tmp 29) (.tmp 30) 3, none⟩,
    ⟨(some 32), .binOp .sub 3 (.tmp 26) (.tmp 31) 3, none⟩,
    ⟨(some 33), .fieldAddr 32 (.tmp 3) 3, none⟩,
    ⟨(some 34), .load 30 (.tmp 33), none⟩,
    ⟨(some 35), .call ⟨.builtin .len, #[(.tmp 34)], #[30]⟩, none⟩,
    ⟨(some 36), .move (.tmp 5), none⟩,
    ⟨(some 37), .binOp .sub 3 (.tmp 35) (.tmp 36) 3, none⟩,
    ⟨(some 38), .binOp .sub 3 (.tmp 32) (.tmp 37) 3, none⟩,
    ⟨(some 7), .assign (.tmp 38), none⟩] [2, 3, 7])
  (.seq (.seq (.reg [⟨(some 39), .fieldAddr 32 (.tmp 2) 2, none⟩,
    ⟨(some 40), .load 9 (.tmp 39), none⟩,
    ⟨(some 41), .fieldAddr 32 (.tmp 3) 2, none⟩,
    ⟨(some 42), .load 9 (.tmp 41), none⟩,
    ⟨(some 43), .binOp .neq 9 (.tmp 40) (.tmp 42) 9, none⟩] [7, 43])
  (.cond (.tmp 43) (.reg [⟨(some 44), .move (.tmp 7), none⟩,
    ⟨(some 45), .binOp .sub 3 (.tmp 44) (.const (.int .i64 10)) 3, none⟩,
    ⟨(some 7), .assign (.tmp 45), none⟩] [7])
  .skip))
  (.seq (.reg [⟨(some 46), .move (.tmp 7), none⟩,
    ⟨(some 4), .assign (.tmp 46), none⟩] [4])
  .ret))))))
theorem spec_l13Evidence_k : fnOk Tryz.prog (fun _ => false) 31 = some (spec_l13Evidence_c.strip, 47, [.tmp 4]) := by kernel_rfl
/-- loop.example/g01062/impl.sightingAt: number 32, params [0, 1] -/
def impl_sightingAt_c : ACode := (.seq (.reg [⟨(some 3), .box 3 (.tmp 1), none⟩,
    ⟨(some 4), .assign (.const (.int .i64 0)), none⟩] [0, 3])
  (.seq (.reg [⟨(some 5), .move (.tmp 0), none⟩,
    ⟨(some 6), .makeFunc (.func 63) #[] #[(.tmp 3)], none⟩,
    ⟨(some 7), .call ⟨.value (.func 62), #[(.tmp 5), (.tmp 6)], #[24, 79]⟩, none⟩,
    ⟨(some 4), .assign (.tmp 7), none⟩] [4])
  .ret))
theorem impl_sightingAt_k : fnOk Tryz.prog (fun _ => false) 32 = some (impl_sightingAt_c.strip, 8, [.tmp 4]) := by kernel_rfl
/-- loop.example/g01062/impl.inRange: number 34, params [0, 1, 2] -/
def impl_inRange_c : ACode := (.seq (.reg [⟨(some 6), .assign (.const (.bool false)), none⟩] [0, 1, 2])
  (.seq (.reg [⟨(some 7), .move (.tmp 0), none⟩,
    ⟨(some 8), .move (.tmp 1), none⟩,
    ⟨(some 9), .binOp .geq 3 (.tmp 7) (.tmp 8) 3, none⟩,
    ⟨(some 10), .move (.tmp 9), none⟩,
    ⟨(some 11), .move (.tmp 0), (some (some 10, true))⟩,
    ⟨(some 12), .move (.tmp 2), (some (some 10, true))⟩,
    ⟨(some 13), .binOp .leq 3 (.tmp 11) (.tmp 12) 3, (some (some 10, true))⟩,
    ⟨(some 14), .pick (.tmp 10) (.tmp 13) (.const (.bool false)), none⟩,
    ⟨(some 6), .assign (.tmp 14), none⟩] [6])
  .ret))
theorem impl_inRange_k : fnOk Tryz.prog (fun _ => false) 34 = some (impl_inRange_c.strip, 15, [.tmp 6]) := by kernel_rfl
/-- head: [0, 1, 5, 6, 8, 9, 15, 16, 35, 36] -/
def impl_sightingGroups_l0 : ACode := (.seq (.reg [⟨(some 37), .binOp .lss 3 (.tmp 36) (.tmp 35) 3, none⟩] [0, 1, 5, 6, 8, 9, 15, 16, 35, 36, 37])
  (.seq (.cond (.tmp 37) .skip
  (.exit 4))
  (.seq (.block 5 (.seq (.reg [⟨(some 38), .move (.tmp 36), none⟩,
    ⟨(some 10), .assign (.tmp 38), none⟩] [0, 1, 5, 6, 8, 9, 10, 15, 16, 35, 36])
  (.seq (.regQ [⟨(some 39), .move (.tmp 5), none⟩,
    ⟨(some 40), .move (.tmp 10), none⟩,
    ⟨(some 41), .indexAddr 83 (.tmp 39) (.tmp 40), none⟩,
    ⟨(some 42), .load 4 (.tmp 41), none⟩,
    ⟨(some 43), .unOp .not 4 (.tmp 42), none⟩,
    ⟨(some 44), .move (.tmp 43), none⟩,
    ⟨(some 45), .move (.tmp 0), (some (some 44, true))⟩,
    ⟨(some 46), .move (.tmp 8), (some (some 44, true))⟩,
    ⟨(some 47), .move (.tmp 9), (some (some 44, true))⟩,
    ⟨(some 48), .indexAddr 30 (.tmp 46) (.tmp 47), (some (some 44, true))⟩,
    ⟨(some 49), .load 3 (.tmp 48), (some (some 44, true))⟩,
    ⟨(some 50), .indexAddr 24 (.tmp 45) (.tmp 49), (some (some 44, true))⟩,
    ⟨(some 51), .load 32 (.tmp 50), (some (some 44, true))⟩,
    ⟨(some 52), .move (.tmp 0), (some (some 44, true))⟩,
    ⟨(some 53), .move (.tmp 10), (some (some 44, true))⟩,
    ⟨(some 54), .indexAddr 24 (.tmp 52) (.tmp 53), (some (some 44, true))⟩,
    ⟨(some 55), .load 32 (.tmp 54), (some (some 44, true))⟩,
    ⟨(some 56), .call ⟨.value (.func 29), #[(.tmp 51), (.tmp 55)], #[32, 32]⟩, (some (some 44, true))⟩,
    ⟨(some 57), .move (.tmp 1), (some (some 44, true))⟩,
    ⟨(some 58), .binOp .geq 3 (.tmp 56) (.tmp 57) 3, (some (some 44, true))⟩,
    ⟨(some 59), .pick (.tmp 44) (.tmp 58) (.const (.bool false)), none⟩] [0, 1, 5, 6, 8, 9, 10, 15, 16, 35, 36, 59])
  (.cond (.tmp 59) (.seq (.reg [⟨(some 60), .move (.tmp 5), none⟩,
    ⟨(some 61), .move (.tmp 10), none⟩,
    ⟨(some 62), .indexAddr 83 (.tmp 60) (.tmp 61), none⟩,
    ⟨none, .store 4 (.tmp 62) (.const (.bool true)), none⟩] [0, 1, 5, 6, 8, 9, 10, 15, 16, 35, 36])
  (.reg [⟨(some 63), .move (.tmp 8), none⟩,
    ⟨(some 64), .move (.tmp 10), none⟩,
    ⟨(some 65), .buildSlice 30 1 #[(0, (.tmp 64))], none⟩,
    ⟨(some 66), .call ⟨.builtin .append, #[(.tmp 63), (.tmp 65)], #[30, 30]⟩, none⟩,
    ⟨(some 8), .assign (.tmp 66), none⟩] [0, 1, 5, 6, 8, 9, 15, 16, 35, 36]))
  .skip))))
  (.reg [⟨(some 67), .binOp .add 3 (.tmp 36) (.const (.int .i64 1)) 3, none⟩,
    ⟨(some 36), .move (.tmp 67), none⟩] [0, 1, 5, 6, 8, 9, 15, 16, 35, 36]))))
/-- head: [0, 1, 5, 6, 8, 9, 15, 16] -/
def impl_sightingGroups_l1 : ACode := (.seq (.seq (.reg [⟨(some 28), .move (.tmp 9), none⟩,
    ⟨(some 29), .move (.tmp 8), none⟩,
    ⟨(some 30), .call ⟨.builtin .len, #[(.tmp 29)], #[30]⟩, none⟩,
    ⟨(some 31), .binOp .lss 3 (.tmp 28) (.tmp 30) 3, none⟩] [0, 1, 5, 6, 8, 9, 15, 16, 31])
  (.cond (.tmp 31) .skip
  (.exit 2)))
  (.seq (.block 3 (.seq (.reg [⟨(some 34), .move (.tmp 0), none⟩,
    ⟨(some 35), .call ⟨.builtin .len, #[(.tmp 34)], #[24]⟩, none⟩,
    ⟨(some 36), .move (.const (.int .i64 0)), none⟩] [0, 1, 5, 6, 8, 9, 15, 16, 35, 36])
  (.block 4 (.loop impl_sightingGroups_l0))))
  (.reg [⟨(some 32), .move (.tmp 9), none⟩,
    ⟨(some 33), .binOp .add 3 (.tmp 32) (.const (.int .i64 1)) 3, none⟩,
    ⟨(some 9), .assign (.tmp 33), none⟩] [0, 1, 5, 6, 8, 9, 15, 16])))
/-- head: [0, 1, 5, 6, 15, 16] -/
def impl_sightingGroups_l2 : ACode := (.seq (.reg [⟨(some 17), .binOp .lss 3 (.tmp 16) (.tmp 15) 3, none⟩] [0, 1, 5, 6, 15, 16, 17])
  (.seq (.cond (.tmp 17) .skip
  (.exit 0))
  (.seq (.block 1 (.seq (.reg [⟨(some 18), .move (.tmp 16), none⟩,
    ⟨(some 7), .assign (.tmp 18), none⟩] [0, 1, 5, 6, 7, 15, 16])
  (.seq (.seq (.reg [⟨(some 19), .move (.tmp 5), none⟩,
    ⟨(some 20), .move (.tmp 7), none⟩,
    ⟨(some 21), .indexAddr 83 (.tmp 19) (.tmp 20), none⟩,
    ⟨(some 22), .load 4 (.tmp 21), none⟩] [0, 1, 5, 6, 7, 15, 16, 22])
  (.cond (.tmp 22) (.exit 1)
  .skip))
  (.seq (.reg [⟨(some 23), .move (.tmp 5), none⟩,
    ⟨(some 24), .move (.tmp 7), none⟩,
    ⟨(some 25), .indexAddr 83 (.tmp 23) (.tmp 24), none⟩,
    ⟨none, .store 4 (.tmp 25) (.const (.bool true)), none⟩] [0, 1, 5, 6, 7, 15, 16])
  (.seq (.reg [⟨(some 26), .move (.tmp 7), none⟩,
    ⟨(some 27), .buildSlice 30 1 #[(0, (.tmp 26))], none⟩,
    ⟨(some 8), .assign (.tmp 27), none⟩] [0, 1, 5, 6, 8, 15, 16])
  (.seq (.seq (.reg [⟨(some 9), .assign (.const (.int .i64 0)), none⟩] [0, 1, 5, 6, 8, 9, 15, 16])
  (.block 2 (.loop impl_sightingGroups_l1)))
  (.seq (.reg [⟨(some 68), .move (.tmp 8), none⟩,
    ⟨(some 69), .call ⟨.value (.func 45), #[(.tmp 68)], #[30]⟩, none⟩] [0, 1, 5, 6, 8, 15, 16])
  (.reg [⟨(some 70), .move (.tmp 6), none⟩,
    ⟨(some 71), .move (.tmp 8), none⟩,
    ⟨(some 72), .buildSlice 35 1 #[(0, (.tmp 71))], none⟩,
    ⟨(some 73), .call ⟨.builtin .append, #[(.tmp 70), (.tmp 72)], #[35, 35]⟩, none⟩,
    ⟨(some 6), .assign (.tmp 73), none⟩] [0, 1, 5, 6, 15, 16]))))))))
  (.reg [⟨(some 74), .binOp .add 3 (.tmp 16) (.const (.int .i64 1)) 3, none⟩,
    ⟨(some 16), .move (.tmp 74), none⟩] [0, 1, 5, 6, 15, 16]))))
/-- loop.example/g01062/impl.sightingGroups: number 35, params [0, 1] -/
def impl_sightingGroups_c : ACode := (.seq (.reg [⟨(some 4), .assign (.const (.slice none 0 0)), none⟩] [0, 1])
  (.seq (.reg [⟨(some 11), .move (.tmp 0), none⟩,
    ⟨(some 12), .call ⟨.builtin .len, #[(.tmp 11)], #[24]⟩, none⟩,
    ⟨(some 13), .makeSlice 83 (.tmp 12) (.tmp 12), none⟩,
    ⟨(some 5), .assign (.tmp 13), none⟩] [0, 1, 5])
  (.seq (.reg [⟨(some 6), .assign (.const (.slice none 0 0)), none⟩] [0, 1, 5, 6])
  (.seq (.seq (.reg [⟨(some 14), .move (.tmp 0), none⟩,
    ⟨(some 15), .call ⟨.builtin .len, #[(.tmp 14)], #[24]⟩, none⟩,
    ⟨(some 16), .move (.const (.int .i64 0)), none⟩] [0, 1, 5, 6, 15, 16])
  (.block 0 (.loop impl_sightingGroups_l2)))
  (.seq (.reg [⟨(some 75), .move (.tmp 6), none⟩,
    ⟨(some 4), .assign (.tmp 75), none⟩] [4])
  .ret)))))
theorem impl_sightingGroups_k : fnOk Tryz.prog (fun _ => false) 35 = some (impl_sightingGroups_c.strip, 76, [.tmp 4]) := by kernel_rfl
/-- loop.example/g01062/spec.l13Limit: number 38, params [0] -/
def spec_l13Limit_c : ACode := (.seq (.reg [⟨(some 2), .assign (.const (.bool false)), none⟩] [0])
  (.seq (.reg [⟨(some 3), .move (.tmp 0), none⟩,
    ⟨(some 4), .call ⟨.value (.func 67), #[(.tmp 3), (.const (.int .i64 (-30))), (.const (.int .i64 16))], #[3, 3, 3]⟩, none⟩,
    ⟨(some 2), .assign (.tmp 4), none⟩] [2])
  .ret))
theorem spec_l13Limit_k : fnOk Tryz.prog (fun _ => false) 38 = some (spec_l13Limit_c.strip, 5, [.tmp 2]) := by kernel_rfl
/-- head: [0, 1, 7, 8, 9, 10] -/
def spec_l13Cover_l0 : ACode := (.seq (.seq (.reg [⟨(some 20), .move (.tmp 10), none⟩,
    ⟨(some 21), .move (.tmp 7), none⟩,
    ⟨(some 22), .call ⟨.builtin .len, #[(.tmp 21)], #[30]⟩, none⟩,
    ⟨(some 23), .binOp .lss 3 (.tmp 20) (.tmp 22) 3, none⟩,
    ⟨(some 24), .move (.tmp 23), none⟩,
    ⟨(some 25), .move (.tmp 7), (some (some 24, true))⟩,
    ⟨(some 26), .move (.tmp 9), (some (some 24, true))⟩,
    ⟨(some 27), .call ⟨.value (.func 40), #[(.tmp 25), (.tmp 26)], #[30, 3]⟩, (some (some 24, true))⟩,
    ⟨(some 28), .unOp .not 4 (.tmp 27), (some (some 24, true))⟩,
    ⟨(some 29), .pick (.tmp 24) (.tmp 28) (.const (.bool false)), none⟩] [0, 1, 7, 8, 9, 10, 29])
  (.cond (.tmp 29) .skip
  (.exit 4)))
  (.seq (.block 5 (.seq (.regQ [⟨(some 32), .move (.tmp 0), none⟩,
    ⟨(some 33), .move (.tmp 7), none⟩,
    ⟨(some 34), .move (.tmp 10), none⟩,
    ⟨(some 35), .indexAddr 30 (.tmp 33) (.tmp 34), none⟩,
    ⟨(some 36), .load 3 (.tmp 35), none⟩,
    ⟨(some 37), .indexAddr 24 (.tmp 32) (.tmp 36), none⟩,
    ⟨(some 38), .load 32 (.tmp 37), none⟩,
    ⟨(some 39), .move (.tmp 0), none⟩,
    ⟨(some 40), .move (.tmp 9), none⟩,
    ⟨(some 41), .indexAddr 24 (.tmp 39) (.tmp 40), none⟩,
    ⟨(some 42), .load 32 (.tmp 41), none⟩,
    ⟨(some 43), .call ⟨.value (.func 31), #[(.tmp 38), (.tmp 42)], #[32, 32]⟩, none⟩,
    ⟨(some 44), .move (.tmp 1), none⟩,
    ⟨(some 45), .binOp .geq 3 (.tmp 43) (.tmp 44) 3, none⟩] [0, 1, 7, 8, 9, 10, 45])
  (.cond (.tmp 45) (.seq (.reg [⟨(some 46), .move (.tmp 7), none⟩,
    ⟨(some 47), .move (.tmp 9), none⟩,
    ⟨(some 48), .call ⟨.value (.func 48), #[(.tmp 46), (.tmp 47)], #[30, 3]⟩, none⟩,
    ⟨(some 7), .assign (.tmp 48), none⟩] [0, 1, 7, 9, 10])
  (.reg [⟨(some 8), .assign (.const (.bool true)), none⟩] [0, 1, 7, 8, 9, 10]))
  .skip)))
  (.reg [⟨(some 30), .move (.tmp 10), none⟩,
    ⟨(some 31), .binOp .add 3 (.tmp 30) (.const (.int .i64 1)) 3, none⟩,
    ⟨(some 10), .assign (.tmp 31), none⟩] [0, 1, 7, 8, 9, 10])))
/-- head: [0, 1, 7, 8, 9] -/
def spec_l13Cover_l1 : ACode := (.seq (.seq (.reg [⟨(some 14), .move (.tmp 9), none⟩,
    ⟨(some 15), .move (.tmp 0), none⟩,
    ⟨(some 16), .call ⟨.builtin .len, #[(.tmp 15)], #[24]⟩, none⟩,
    ⟨(some 17), .binOp .lss 3 (.tmp 14) (.tmp 16) 3, none⟩] [0, 1, 7, 8, 9, 17])
  (.cond (.tmp 17) .skip
  (.exit 2)))
  (.seq (.block 3 (.seq (.reg [⟨(some 10), .assign (.const (.int .i64 0)), none⟩] [0, 1, 7, 8, 9, 10])
  (.block 4 (.loop spec_l13Cover_l0))))
  (.reg [⟨(some 18), .move (.tmp 9), none⟩,
    ⟨(some 19), .binOp .add 3 (.tmp 18) (.const (.int .i64 1)) 3, none⟩,
    ⟨(some 9), .assign (.tmp 19), none⟩] [0, 1, 7, 8, 9])))
/-- head: [0, 1, 7, 8] -/
def spec_l13Cover_l2 : ACode := (.seq (.seq (.reg [⟨(some 13), .move (.tmp 8), none⟩] [0, 1, 7, 13])
  (.cond (.tmp 13) .skip
  (.exit 0)))
  (.block 1 (.seq (.reg [⟨(some 8), .assign (.const (.bool false)), none⟩] [0, 1, 7, 8])
  (.seq (.reg [⟨(some 9), .assign (.const (.int .i64 0)), none⟩] [0, 1, 7, 8, 9])
  (.block 2 (.loop spec_l13Cover_l1))))))
/-- loop.example/g01062/spec.l13Cover: number 39, params [0, 1, 2] -/
def spec_l13Cover_c : ACode := (.seq (.reg [⟨(some 6), .assign (.const (.slice none 0 0)), none⟩] [0, 1, 2])
  (.seq (.reg [⟨(some 11), .move (.tmp 2), none⟩,
    ⟨(some 12), .buildSlice 30 1 #[(0, (.tmp 11))], none⟩,
    ⟨(some 7), .assign (.tmp 12), none⟩] [0, 1, 7])
  (.seq (.seq (.reg [⟨(some 8), .assign (.const (.bool true)), none⟩] [0, 1, 7, 8])
  (.block 0 (.loop spec_l13Cover_l2)))
  (.seq (.reg [⟨(some 49), .move (.tmp 7), none⟩,
    ⟨(some 6), .assign (.tmp 49), none⟩] [6])
  .ret))))
theorem spec_l13Cover_k : fnOk Tryz.prog (fun _ => false) 39 = some (spec_l13Cover_c.strip, 50, [.tmp 6]) := by kernel_rfl
/-- head: [0, 1, 5] -/
def spec_l1Has_l0 : ACode := (.seq (.seq (.reg [⟨(some 6), .move (.tmp 5), none⟩,
    ⟨(some 7), .move (.tmp 0), none⟩,
    ⟨(some 8), .call ⟨.builtin .len, #[(.tmp 7)], #[30]⟩, none⟩,
    ⟨(some 9), .binOp .lss 3 (.tmp 6) (.tmp 8) 3, none⟩] [0, 1, 5, 9])
  (.cond (.tmp 9) .skip
  (.exit 0)))
  (.seq (.block 1 (.seq (.reg [⟨(some 12), .move (.tmp 0), none⟩,
    ⟨(some 13), .move (.tmp 5), none⟩,
    ⟨(some 14), .indexAddr 30 (.tmp 12) (.tmp 13), none⟩,
    ⟨(some 15), .load 3 (.tmp 14), none⟩,
    ⟨(some 16), .move (.tmp 1), none⟩,
    ⟨(some 17), .binOp .eql 3 (.tmp 15) (.tmp 16) 3, none⟩] [0, 1, 5, 17])
  (.cond (.tmp 17) (.seq (.reg [⟨(some 4), .assign (.const (.bool true)), none⟩] [4])
  .ret)
  .skip)))
  (.reg [⟨(some 10), .move (.tmp 5), none⟩,
    ⟨(some 11), .binOp .add 3 (.tmp 10) (.const (.int .i64 1)) 3, none⟩,
    ⟨(some 5), .assign (.tmp 11), none⟩] [0, 1, 5])))
/-- loop.example/g01062/spec.l1Has: number 40, params [0, 1] -/
def spec_l1Has_c : ACode := (.seq (.reg [⟨(some 4), .assign (.const (.bool false)), none⟩] [0, 1])
  (.seq (.seq (.reg [⟨(some 5), .assign (.const (.int .i64 0)), none⟩] [0, 1, 5])
  (.block 0 (.loop spec_l1Has_l0)))
  (.seq (.reg [⟨(some 4), .assign (.const (.bool false)), none⟩] [4])
  .ret)))
theorem spec_l1Has_k : fnOk Tryz.prog (fun _ => false) 40 = some (spec_l1Has_c.strip, 18, [.tmp 4]) := by kernel_rfl
/-- head: [7, 15, 16, 17] -/
def impl_groupWith_l0 : ACode := (.seq (.reg [⟨(some 18), .binOp .lss 3 (.tmp 17) (.tmp 16) 3, none⟩] [7, 15, 16, 17, 18])
  (.seq (.cond (.tmp 18) .skip
  (.exit 0))
  (.seq (.block 1 (.seq (.reg [⟨(some 19), .indexAddr 35 (.tmp 15) (.tmp 17), none⟩,
    ⟨(some 20), .load 30 (.tmp 19), none⟩,
    ⟨(some 9), .assign (.tmp 20), none⟩] [7, 9, 15, 16, 17])
  (.seq (.reg [⟨(some 21), .move (.tmp 9), none⟩,
    ⟨(some 22), .move (.tmp 7), none⟩,
    ⟨(some 23), .call ⟨.value (.func 61), #[(.tmp 21), (.tmp 22)], #[30, 3]⟩, none⟩] [7, 9, 15, 16, 17, 23])
  (.cond (.tmp 23) (.seq (.reg [⟨(some 24), .move (.tmp 9), none⟩,
    ⟨(some 6), .assign (.tmp 24), none⟩] [6])
  .ret)
  .skip))))
  (.reg [⟨(some 25), .binOp .add 3 (.tmp 17) (.const (.int .i64 1)) 3, none⟩,
    ⟨(some 17), .move (.tmp 25), none⟩] [7, 15, 16, 17]))))
/-- loop.example/g01062/impl.groupWith: number 44, params [0, 1, 2] -/
def impl_groupWith_c : ACode := (.seq (.reg [⟨(some 6), .assign (.const (.slice none 0 0)), none⟩] [0, 1, 2])
  (.seq (.reg [⟨(some 10), .move (.tmp 0), none⟩,
    ⟨(some 11), .move (.tmp 2), none⟩,
    ⟨(some 12), .call ⟨.value (.func 32), #[(.tmp 10), (.tmp 11)], #[24, 3]⟩, none⟩,
    ⟨(some 7), .assign (.tmp 12), none⟩] [0, 1, 7])
  (.seq (.seq (.reg [⟨(some 13), .move (.tmp 0), none⟩,
    ⟨(some 14), .move (.tmp 1), none⟩,
    ⟨(some 15), .call ⟨.value (.func 35), #[(.tmp 13), (.tmp 14)], #[24, 3]⟩, none⟩,
    ⟨(some 16), .call ⟨.builtin .len, #[(.tmp 15)], #[35]⟩, none⟩,
    ⟨(some 17), .move (.const (.int .i64 0)), none⟩] [7, 15, 16, 17])
  (.block 0 (.loop impl_groupWith_l0)))
  (.seq (.reg [⟨(some 6), .assign (.const (.slice none 0 0)), none⟩] [6])
  .ret))))
theorem impl_groupWith_k : fnOk Tryz.prog (fun _ => false) 44 = some (impl_groupWith_c.strip, 26, [.tmp 6]) := by kernel_rfl
/-- head: [0, 1, 5] -/
def spec_l13Find_l0 : ACode := (.seq (.seq (.reg [⟨(some 6), .move (.tmp 5), none⟩,
    ⟨(some 7), .move (.tmp 0), none⟩,
    ⟨(some 8), .call ⟨.builtin .len, #[(.tmp 7)], #[24]⟩, none⟩,
    ⟨(some 9), .binOp .lss 3 (.tmp 6) (.tmp 8) 3, none⟩] [0, 1, 5, 9])
  (.cond (.tmp 9) .skip
  (.exit 0)))
  (.seq (.block 1 (.seq (.reg [⟨(some 12), .move (.tmp 0), none⟩,
    ⟨(some 13), .move (.tmp 5), none⟩,
    ⟨(some 14), .indexAddr 24 (.tmp 12) (.tmp 13), none⟩,
    ⟨(some 15), .fieldAddr 32 (.tmp 14) 0, none⟩,
    ⟨(some 16), .load 3 (.tmp 15), none⟩,
    ⟨(some 17), .move (.tmp 1), none⟩,
    ⟨(some 18), .binOp .eql 3 (.tmp 16) (.tmp 17) 3, none⟩] [0, 1, 5, 18])
  (.cond (.tmp 18) (.seq (.reg [⟨(some 19), .move (.tmp 5), none⟩,
    ⟨(some 4), .assign (.tmp 19), none⟩] [4])
  .ret)
  .skip)))
  (.reg [⟨(some 10), .move (.tmp 5), none⟩,
    ⟨(some 11), .binOp .add 3 (.tmp 10) (.const (.int .i64 1)) 3, none⟩,
    ⟨(some 5), .assign (.tmp 11), none⟩] [0, 1, 5])))
/-- loop.example/g01062/spec.l13Find: number 47, params [0, 1] -/
def spec_l13Find_c : ACode := (.seq (.reg [⟨(some 4), .assign (.const (.int .i64 0)), none⟩] [0, 1])
  (.seq (.seq (.reg [⟨(some 5), .assign (.const (.int .i64 0)), none⟩] [0, 1, 5])
  (.block 0 (.loop spec_l13Find_l0)))
  (.seq (.reg [⟨(some 4), .assign (.const (.int .i64 (-1))), none⟩] [4])
  .ret)))
theorem spec_l13Find_k : fnOk Tryz.prog (fun _ => false) 47 = some (spec_l13Find_c.strip, 20, [.tmp 4]) := by kernel_rfl
/-- head: [0, 1, 5] -/
def spec_l1Put_l0 : ACode := (.seq (.seq (.reg [⟨(some 6), .move (.tmp 5), none⟩,
    ⟨(some 7), .move (.tmp 0), none⟩,
    ⟨(some 8), .call ⟨.builtin .len, #[(.tmp 7)], #[30]⟩, none⟩,
    ⟨(some 9), .binOp .lss 3 (.tmp 6) (.tmp 8) 3, none⟩,
    ⟨(some 10), .move (.tmp 9), none⟩,
    ⟨(some 11), .move (.tmp 0), (some (some 10, true))⟩,
    ⟨(some 12), .move (.tmp 5), (some (some 10, true))⟩,
    ⟨(some 13), .indexAddr 30 (.tmp 11) (.tmp 12), (some (some 10, true))⟩,
    ⟨(some 14), .load 3 (.tmp 13), (some (some 10, true))⟩,
    ⟨(some 15), .move (.tmp 1), (some (some 10, true))⟩,
    ⟨(some 16), .binOp .lss 3 (.tmp 14) (.tmp 15) 3, (some (some 10, true))⟩,
    ⟨(some 17), .pick (.tmp 10) (.tmp 16) (.const (.bool false)), none⟩] [0, 1, 5, 17])
  (.cond (.tmp 17) .skip
  (.exit 0)))
  (.block 1 (.reg [⟨(some 18), .move (.tmp 5), none⟩,
    ⟨(some 19), .binOp .add 3 (.tmp 18) (.const (.int .i64 1)) 3, none⟩,
    ⟨(some 5), .assign (.tmp 19), none⟩] [0, 1, 5])))
/-- loop.example/g01062/spec.l1Put: number 48, params [0, 1] -/
def spec_l1Put_c : ACode := (.seq (.reg [⟨(some 4), .assign (.const (.slice none 0 0)), none⟩] [0, 1])
  (.seq (.reg [⟨(some 5), .assign (.const (.int .i64 0)), none⟩] [0, 1, 5])
  (.seq (.block 0 (.loop spec_l1Put_l0))
  (.seq (.seq (.reg [⟨(some 20), .move (.tmp 5), none⟩,
    ⟨(some 21), .move (.tmp 0), none⟩,
    ⟨(some 22), .call ⟨.builtin .len, #[(.tmp 21)], #[30]⟩, none⟩,
    ⟨(some 23), .binOp .lss 3 (.tmp 20) (.tmp 22) 3, none⟩,
    ⟨(some 24), .move (.tmp 23), none⟩,
    ⟨(some 25), .move (.tmp 0), (some (some 24, true))⟩,
    ⟨(some 26), .move (.tmp 5), (some (some 24, true))⟩,
    ⟨(some 27), .indexAddr 30 (.tmp 25) (.tmp 26), (some (some 24, true))⟩,
    ⟨(some 28), .load 3 (.tmp 27), (some (some 24, true))⟩,
    ⟨(some 29), .move (.tmp 1), (some (some 24, true))⟩,
    ⟨(some 30), .binOp .eql 3 (.tmp 28) (.tmp 29) 3, (some (some 24, true))⟩,
    ⟨(some 31), .pick (.tmp 24) (.tmp 30) (.const (.bool false)), none⟩] [0, 1, 5, 31])
  (.cond (.tmp 31) (.seq (.reg [⟨(some 32), .move (.tmp 0), none⟩,
    ⟨(some 4), .assign (.tmp 32), none⟩] [4])
  .ret)
  .skip))
  (.seq (.regF []
    [34, 35, 36, 33, 38, 39, 41, 42, 43] [] [] []
    [⟨(some 34), .move (.tmp 0), none⟩,
    ⟨(some 35), .move (.tmp 5), none⟩,
    ⟨(some 36), .slice 30 (.tmp 34) none (some (.tmp 35)) none, none⟩,
    ⟨(some 33), .buildSlice 30 0 #[], none⟩,
    ⟨(some 37), .call ⟨.builtin .append, #[(.tmp 33), (.tmp 36)], #[30, 30]⟩, none⟩,
    ⟨(some 38), .move (.tmp 1), none⟩,
    ⟨(some 39), .buildSlice 30 1 #[(0, (.tmp 38))], none⟩,
    ⟨(some 40), .call ⟨.builtin .append, #[(.tmp 37), (.tmp 39)], #[30, 30]⟩, none⟩,
    ⟨(some 41), .move (.tmp 0), none⟩,
    ⟨(some 42), .move (.tmp 5), none⟩,
    ⟨(some 43), .slice 30 (.tmp 41) (some (.tmp 42)) none none, none⟩,
    ⟨(some 44), .call ⟨.builtin .append, #[(.tmp 40), (.tmp 43)], #[30, 30]⟩, none⟩,
    ⟨(some 4), .assign (.tmp 44), none⟩] [4])
  .ret)))))
theorem spec_l1Put_k : fnOk Tryz.prog (fun _ => false) 48 = some (spec_l1Put_c.strip, 45, [.tmp 4]) := by kernel_rfl
/-- loop.example/g01062/spec.l1Least: number 49, params [0, 1] -/
def spec_l1Least_c : ACode := (.seq (.reg [⟨(some 4), .assign (.const (.int .i64 0)), none⟩] [0, 1])
  (.seq (.seq (.reg [⟨(some 5), .move (.tmp 0), none⟩,
    ⟨(some 6), .move (.tmp 1), none⟩,
    ⟨(some 7), .binOp .lss 3 (.tmp 5) (.tmp 6) 3, none⟩] [0, 1, 7])
  (.cond (.tmp 7) (.seq (.reg [⟨(some 8), .move (.tmp 0), none⟩,
    ⟨(some 4), .assign (.tmp 8), none⟩] [4])
  .ret)
  .skip))
  (.seq (.reg [⟨(some 9), .move (.tmp 1), none⟩,
    ⟨(some 4), .assign (.tmp 9), none⟩] [4])
  .ret)))
theorem spec_l1Least_k : fnOk Tryz.prog (fun _ => false) 49 = some (spec_l1Least_c.strip, 10, [.tmp 4]) := by kernel_rfl
/-- loop.example/g01062/spec.l1Most: number 50, params [0, 1] -/
def spec_l1Most_c : ACode := (.seq (.reg [⟨(some 4), .assign (.const (.int .i64 0)), none⟩] [0, 1])
  (.seq (.seq (.reg [⟨(some 5), .move (.tmp 0), none⟩,
    ⟨(some 6), .move (.tmp 1), none⟩,
    ⟨(some 7), .binOp .gtr 3 (.tmp 5) (.tmp 6) 3, none⟩] [0, 1, 7])
  (.cond (.tmp 7) (.seq (.reg [⟨(some 8), .move (.tmp 0), none⟩,
    ⟨(some 4), .assign (.tmp 8), none⟩] [4])
  .ret)
  .skip))
  (.seq (.reg [⟨(some 9), .move (.tmp 1), none⟩,
    ⟨(some 4), .assign (.tmp 9), none⟩] [4])
  .ret)))
theorem spec_l1Most_k : fnOk Tryz.prog (fun _ => false) 50 = some (spec_l1Most_c.strip, 10, [.tmp 4]) := by kernel_rfl
/-- head: [3, 6, 7, 8] -/
def impl_copySightings_l0 : ACode := (.seq (.reg [⟨(some 9), .binOp .lss 3 (.tmp 8) (.tmp 7) 3, none⟩] [3, 6, 7, 8, 9])
  (.seq (.cond (.tmp 9) .skip
  (.exit 0))
  (.seq (.block 1 (.seq (.reg [⟨(some 10), .indexAddr 24 (.tmp 6) (.tmp 8), none⟩,
    ⟨(some 11), .load 32 (.tmp 10), none⟩,
    ⟨(some 5), .alloc 32, none⟩,
    ⟨none, .store 32 (.tmp 5) (.tmp 11), none⟩] [3, 5, 6, 7, 8])
  (.seq (.reg [⟨(some 12), .fieldAddr 32 (.tmp 5) 3, none⟩,
    ⟨(some 13), .load 30 (.tmp 12), none⟩,
    ⟨(some 14), .call ⟨.value (.func 53), #[(.tmp 13)], #[30]⟩, none⟩,
    ⟨(some 15), .fieldAddr 32 (.tmp 5) 3, none⟩,
    ⟨none, .store 30 (.tmp 15) (.tmp 14), none⟩] [3, 5, 6, 7, 8])
  (.reg [⟨(some 16), .move (.tmp 3), none⟩,
    ⟨(some 17), .load 32 (.tmp 5), none⟩,
    ⟨(some 18), .buildSlice 24 1 #[(0, (.tmp 17))], none⟩,
    ⟨(some 19), .call ⟨.builtin .append, #[(.tmp 16), (.tmp 18)], #[24, 24]⟩, none⟩,
    ⟨(some 3), .assign (.tmp 19), none⟩] [3, 6, 7, 8]))))
  (.reg [⟨(some 20), .binOp .add 3 (.tmp 8) (.const (.int .i64 1)) 3, none⟩,
    ⟨(some 8), .move (.tmp 20), none⟩] [3, 6, 7, 8]))))
/-- loop.example/g01062/impl.copySightings: number 52, params [0] -/
def impl_copySightings_c : ACode := (.seq (.reg [⟨(some 2), .assign (.const (.slice none 0 0)), none⟩] [0])
  (.seq (.reg [⟨(some 3), .assign (.const (.slice none 0 0)), none⟩] [0, 3])
  (.seq (.seq (.reg [⟨(some 6), .move (.tmp 0), none⟩,
    ⟨(some 7), .call ⟨.builtin .len, #[(.tmp 6)], #[24]⟩, none⟩,
    ⟨(some 8), .move (.const (.int .i64 0)), none⟩] [3, 6, 7, 8])
  (.block 0 (.loop impl_copySightings_l0)))
  (.seq (.reg [⟨(some 21), .move (.tmp 3), none⟩,
    ⟨(some 2), .assign (.tmp 21), none⟩] [2])
  .ret))))
theorem impl_copySightings_k : fnOk Tryz.prog (fun _ => false) 52 = some (impl_copySightings_c.strip, 22, [.tmp 2]) := by kernel_rfl
/-- slices.Clone[[]int,int]: number 53, params [0] -/
def slices_Clone___int_int__c : ACode := (.seq (.reg [⟨(some 2), .assign (.const (.slice none 0 0)), none⟩] [0])
  (.seq (.seq (.reg [⟨(some 3), .move (.tmp 0), none⟩,
    ⟨(some 4), .binOp .eql 30 (.tmp 3) (.const (.slice none 0 0)) 30, none⟩] [0, 4])
  (.cond (.tmp 4) (.seq (.reg [⟨(some 2), .assign (.const (.slice none 0 0)), none⟩] [2])
  .ret)
  .skip))
  (.seq (.reg [⟨(some 5), .buildSlice 30 0 #[], none⟩,
    ⟨(some 6), .move (.tmp 0), none⟩,
    ⟨(some 7), .call ⟨.builtin .append, #[(.tmp 5), (.tmp 6)], #[30, 30]⟩, none⟩,
    ⟨(some 2), .assign (.tmp 7), none⟩] [2])
  .ret)))
theorem slices_Clone___int_int__k : fnOk Tryz.prog (fun _ => false) 53 = some (slices_Clone___int_int__c.strip, 8, [.tmp 2]) := by kernel_rfl
/-- loop.example/g01062/spec.l1Own: number 54, params [0] -/
def spec_l1Own_c : ACode := (.seq (.reg [⟨(some 2), .assign (.const (.slice none 0 0)), none⟩] [0])
  (.seq (.reg [⟨(some 3), .buildSlice 30 0 #[], none⟩,
    ⟨(some 4), .move (.tmp 0), none⟩,
    ⟨(some 5), .call ⟨.builtin .append, #[(.tmp 3), (.tmp 4)], #[30, 30]⟩, none⟩,
    ⟨(some 2), .assign (.tmp 5), none⟩] [2])
  .ret))
theorem spec_l1Own_k : fnOk Tryz.prog (fun _ => false) 54 = some (spec_l1Own_c.strip, 6, [.tmp 2]) := by kernel_rfl
/-- loop.example/g01062/spec.l13One: number 57, params [0] -/
def spec_l13One_c : ACode := (.seq (.reg [⟨(some 1), .box 32 (.tmp 0), none⟩,
    ⟨(some 2), .assign (.const (.bool false)), none⟩] [1])
  (.seq (.reg [⟨(some 3), .fieldAddr 32 (.tmp 1) 0, none⟩,
    ⟨(some 4), .load 3 (.tmp 3), none⟩,
    ⟨(some 5), .call ⟨.value (.func 67), #[(.tmp 4), (.const (.int .i64 1)), (.const (.int .i64 999))], #[3, 3, 3]⟩, none⟩,
    ⟨(some 6), .move (.tmp 5), none⟩,
    ⟨(some 7), .fieldAddr 32 (.tmp 1) 1, (some (some 6, true))⟩,
    ⟨(some 8), .load 3 (.tmp 7), (some (some 6, true))⟩,
    ⟨(some 9), .call ⟨.value (.func 67), #[(.tmp 8), (.const (.int .i64 1840)), (.const (.int .i64 2100))], #[3, 3, 3]⟩, (some (some 6, true))⟩,
    ⟨(some 10), .pick (.tmp 6) (.tmp 9) (.const (.bool false)), none⟩,
    ⟨(some 11), .move (.tmp 10), none⟩,
    ⟨(some 12), .fieldAddr 32 (.tmp 1) 2, (some (some 11, true))⟩,
    ⟨(some 13), .load 9 (.tmp 12), (some (some 11, true))⟩,
    ⟨(some 14), .call ⟨.value (.func 74), #[(.tmp 13)], #[9]⟩, (some (some 11, true))⟩,
    ⟨(some 15), .pick (.tmp 11) (.tmp 14) (.const (.bool false)), none⟩,
    ⟨(some 16), .move (.tmp 15), none⟩,
    ⟨(some 17), .fieldAddr 32 (.tmp 1) 3, (some (some 16, true))⟩,
    ⟨(some 18), .load 30 (.tmp 17), (some (some 16, true))⟩,
    ⟨(some 19), .call ⟨.builtin .len, #[(.tmp 18)], #[30]⟩, (some (some 16, true))⟩,
    ⟨(some 20), .binOp .leq 3 (.tmp 19) (.const (.int .i64 8)) 3, (some (some 16, true))⟩,
    ⟨(some 21), .pick (.tmp 16) (.tmp 20) (.const (.bool false)), none⟩,
    ⟨(some 22), .move (.tmp 21), none⟩,
    ⟨(some 23), .fieldAddr 32 (.tmp 1) 3, (some (some 22, true))⟩,
    ⟨(some 24), .load 30 (.tmp 23), (some (some 22, true))⟩,
    ⟨(some 25), .call ⟨.value (.func 75), #[(.tmp 24), (.const (.int .i64 1)), (.const (.int .i64 50))], #[30, 3, 3]⟩, (some (some 22, true))⟩,
    ⟨(some 26), .pick (.tmp 22) (.tmp 25) (.const (.bool false)), none⟩,
    ⟨(some 2), .assign (.tmp 26), none⟩] [2])
  .ret))
theorem spec_l13One_k : fnOk Tryz.prog (fun _ => false) 57 = some (spec_l13One_c.strip, 27, [.tmp 2]) := by kernel_rfl
/-- loop.example/g01062/spec.l1Num: number 58, params [0] -/
def spec_l1Num_c : ACode := (.seq (.reg [⟨(some 2), .assign (.const (.string ⟨#[]⟩)), none⟩] [0])
  (.seq (.seq (.reg [⟨(some 3), .move (.tmp 0), none⟩,
    ⟨(some 4), .binOp .lss 3 (.tmp 3) (.const (.int .i64 0)) 3, none⟩] [0, 4])
  (.cond (.tmp 4) (.seq (.reg [⟨(some 5), .move (.tmp 0), none⟩,
    ⟨(some 6), .unOp .neg 3 (.tmp 5), none⟩,
    ⟨(some 7), .call ⟨.value (.func 58), #[(.tmp 6)], #[3]⟩, none⟩,
    ⟨(some 8), .binOp .add 9 (.const (.string ⟨#[45]⟩)) (.tmp 7) 9, none⟩,
    ⟨(some 2), .assign (.tmp 8), none⟩] [2])
  .ret)
  .skip))
  (.seq (.seq (.reg [⟨(some 9), .move (.tmp 0), none⟩,
    ⟨(some 10), .binOp .lss 3 (.tmp 9) (.const (.int .i64 10)) 3, none⟩] [0, 10])
  (.cond (.tmp 10) (.seq (.reg [⟨(some 11), .move (.tmp 0), none⟩,
    ⟨(some 12), .move (.tmp 0), none⟩,
    ⟨(some 13), .binOp .add 3 (.tmp 12) (.const (.int .i64 1)) 3, none⟩,
    ⟨(some 14), .slice 9 (.const (.string ⟨#[48, 49, 50, 51, 52, 53, 54, 55, 56, 57]⟩)) (some (.tmp 11)) (some (.tmp 13)) none, none⟩,
    ⟨(some 2), .assign (.tmp 14), none⟩] [2])
  .ret)
  .skip))
  (.seq (.regQ [⟨(some 15), .move (.tmp 0), none⟩,
    ⟨(some 16), .binOp .quo 3 (.tmp 15) (.const (.int .i64 10)) 3, none⟩,
    ⟨(some 17), .call ⟨.value (.func 58), #[(.tmp 16)], #[3]⟩, none⟩,
    ⟨(some 18), .move (.tmp 0), none⟩,
    ⟨(some 19), .binOp .rem 3 (.tmp 18) (.const (.int .i64 10)) 3, none⟩,
    ⟨(some 20), .move (.tmp 0), none⟩,
    ⟨(some 21), .binOp .rem 3 (.tmp 20) (.const (.int .i64 10)) 3, none⟩,
    ⟨(some 22), .binOp .add 3 (.tmp 21) (.const (.int .i64 1)) 3, none⟩,
    ⟨(some 23), .slice 9 (.const (.string ⟨#[48, 49, 50, 51, 52, 53, 54, 55, 56, 57]⟩)) (some (.tmp 19)) (some (.tmp 22)) none, none⟩,
    ⟨(some 24), .binOp .add 9 (.tmp 17) (.tmp 23) 9, none⟩,
    ⟨(some 2), .assign (.tmp 24), none⟩] [2])
  .ret))))
theorem spec_l1Num_k : fnOk Tryz.prog (fun _ => false) 58 = some (spec_l1Num_c.strip, 25, [.tmp 2]) := by kernel_rfl
/-- head: [0, 5, 6] -/
def impl_isWord_l0 : ACode := (.seq (.reg [⟨(some 7), .binOp .lss 3 (.tmp 6) (.tmp 5) 3, none⟩] [0, 5, 6, 7])
  (.seq (.cond (.tmp 7) .skip
  (.exit 0))
  (.seq (.block 1 (.seq (.reg [⟨(some 8), .move (.tmp 6), none⟩,
    ⟨(some 3), .assign (.tmp 8), none⟩] [0, 3, 5, 6])
  (.seq (.reg [⟨(some 9), .move (.tmp 0), none⟩,
    ⟨(some 10), .move (.tmp 3), none⟩,
    ⟨(some 11), .index 9 (.tmp 9) (.tmp 10), none⟩,
    ⟨(some 12), .binOp .lss 5 (.tmp 11) (.const (.int .u8 97)) 5, none⟩,
    ⟨(some 13), .move (.tmp 12), none⟩,
    ⟨(some 14), .move (.tmp 0), (some (some 13, false))⟩,
    ⟨(some 15), .move (.tmp 3), (some (some 13, false))⟩,
    ⟨(some 16), .index 9 (.tmp 14) (.tmp 15), (some (some 13, false))⟩,
    ⟨(some 17), .binOp .gtr 5 (.tmp 16) (.const (.int .u8 122)) 5, (some (some 13, false))⟩,
    ⟨(some 18), .pick (.tmp 13) (.const (.bool true)) (.tmp 17), none⟩] [0, 5, 6, 18])
  (.cond (.tmp 18) (.seq (.reg [⟨(some 2), .assign (.const (.bool false)), none⟩] [2])
  .ret)
  .skip))))
  (.reg [⟨(some 19), .binOp .add 3 (.tmp 6) (.const (.int .i64 1)) 3, none⟩,
    ⟨(some 6), .move (.tmp 19), none⟩] [0, 5, 6]))))
/-- loop.example/g01062/impl.isWord: number 59, params [0] -/
def impl_isWord_c : ACode := (.seq (.reg [⟨(some 2), .assign (.const (.bool false)), none⟩] [0])
  (.seq (.seq (.reg [⟨(some 4), .move (.tmp 0), none⟩,
    ⟨(some 5), .call ⟨.builtin .len, #[(.tmp 4)], #[9]⟩, none⟩,
    ⟨(some 6), .move (.const (.int .i64 0)), none⟩] [0, 5, 6])
  (.block 0 (.loop impl_isWord_l0)))
  (.seq (.reg [⟨(some 20), .move (.tmp 0), none⟩,
    ⟨(some 21), .call ⟨.builtin .len, #[(.tmp 20)], #[9]⟩, none⟩,
    ⟨(some 22), .call ⟨.value (.func 34), #[(.tmp 21), (.const (.int .i64 1)), (.const (.int .i64 10))], #[3, 3, 3]⟩, none⟩,
    ⟨(some 2), .assign (.tmp 22), none⟩] [2])
  .ret)))
theorem impl_isWord_k : fnOk Tryz.prog (fun _ => false) 59 = some (impl_isWord_c.strip, 23, [.tmp 2]) := by kernel_rfl
/-- head: [0, 3] -/
def impl_ascending_l0 : ACode := (.seq (.seq (.reg [⟨(some 4), .move (.tmp 3), none⟩,
    ⟨(some 5), .move (.tmp 0), none⟩,
    ⟨(some 6), .call ⟨.builtin .len, #[(.tmp 5)], #[30]⟩, none⟩,
    ⟨(some 7), .binOp .lss 3 (.tmp 4) (.tmp 6) 3, none⟩] [0, 3, 7])
  (.cond (.tmp 7) .skip
  (.exit 0)))
  (.seq (.block 1 (.seq (.regQ [⟨(some 10), .move (.tmp 0), none⟩,
    ⟨(some 11), .move (.tmp 3), none⟩,
    ⟨(some 12), .binOp .sub 3 (.tmp 11) (.const (.int .i64 1)) 3, none⟩,
    ⟨(some 13), .indexAddr 30 (.tmp 10) (.tmp 12), none⟩,
    ⟨(some 14), .load 3 (.tmp 13), none⟩,
    ⟨(some 15), .move (.tmp 0), none⟩,
    ⟨(some 16), .move (.tmp 3), none⟩,
    ⟨(some 17), .indexAddr 30 (.tmp 15) (.tmp 16), none⟩,
    ⟨(some 18), .load 3 (.tmp 17), none⟩,
    ⟨(some 19), .binOp .geq 3 (.tmp 14) (.tmp 18) 3, none⟩] [0, 3, 19])
  (.cond (.tmp 19) (.seq (.reg [⟨(some 2), .assign (.const (.bool false)), none⟩] [2])
  .ret)
  .skip)))
  (.reg [⟨(some 8), .move (.tmp 3), none⟩,
    ⟨(some 9), .binOp .add 3 (.tmp 8) (.const (.int .i64 1)) 3, none⟩,
    ⟨(some 3), .assign (.tmp 9), none⟩] [0, 3])))
/-- loop.example/g01062/impl.ascending: number 60, params [0] -/
def impl_ascending_c : ACode := (.seq (.reg [⟨(some 2), .assign (.const (.bool false)), none⟩] [0])
  (.seq (.seq (.reg [⟨(some 3), .assign (.const (.int .i64 1)), none⟩] [0, 3])
  (.block 0 (.loop impl_ascending_l0)))
  (.seq (.reg [⟨(some 2), .assign (.const (.bool true)), none⟩] [2])
  .ret)))
theorem impl_ascending_k : fnOk Tryz.prog (fun _ => false) 60 = some (impl_ascending_c.strip, 20, [.tmp 2]) := by kernel_rfl
/-- slices.Contains[[]int,int]: number 61, params [0, 1] -/
def slices_Contains___int_int__c : ACode := (.seq (.reg [⟨(some 4), .assign (.const (.bool false)), none⟩] [0, 1])
  (.seq (.reg [⟨(some 5), .move (.tmp 0), none⟩,
    ⟨(some 6), .move (.tmp 1), none⟩,
    ⟨(some 7), .call ⟨.value (.func 76), #[(.tmp 5), (.tmp 6)], #[30, 3]⟩, none⟩,
    ⟨(some 8), .binOp .geq 3 (.tmp 7) (.const (.int .i64 0)) 3, none⟩,
    ⟨(some 4), .assign (.tmp 8), none⟩] [4])
  .ret))
theorem slices_Contains___int_int__k : fnOk Tryz.prog (fun _ => false) 61 = some (slices_Contains___int_int__c.strip, 9, [.tmp 4]) := by kernel_rfl
/-- head: [0, 1, 7, 8] -/
def slices_IndexFunc___impl_Sighting_impl_Sighting__l0 : ACode := (.seq (.reg [⟨(some 9), .binOp .lss 3 (.tmp 8) (.tmp 7) 3, none⟩] [0, 1, 7, 8, 9])
  (.seq (.cond (.tmp 9) .skip
  (.exit 0))
  (.seq (.block 1 (.seq (.reg [⟨(some 10), .move (.tmp 8), none⟩,
    ⟨(some 5), .assign (.tmp 10), none⟩] [0, 1, 5, 7, 8])
  (.seq (.reg [⟨(some 11), .move (.tmp 1), none⟩,
    ⟨(some 12), .move (.tmp 0), none⟩,
    ⟨(some 13), .move (.tmp 5), none⟩,
    ⟨(some 14), .indexAddr 24 (.tmp 12) (.tmp 13), none⟩,
    ⟨(some 15), .load 32 (.tmp 14), none⟩,
    ⟨(some 16), .call ⟨.value (.tmp 11), #[(.tmp 15)], #[32]⟩, none⟩] [0, 1, 5, 7, 8, 16])
  (.cond (.tmp 16) (.seq (.reg [⟨(some 17), .move (.tmp 5), none⟩,
    ⟨(some 4), .assign (.tmp 17), none⟩] [4])
  .ret)
  .skip))))
  (.reg [⟨(some 18), .binOp .add 3 (.tmp 8) (.const (.int .i64 1)) 3, none⟩,
    ⟨(some 8), .move (.tmp 18), none⟩] [0, 1, 7, 8]))))
/-- slices.IndexFunc[[]loop.example/g01062/impl.Sighting,loop.example/g01062/impl.Sighting]: number 62, params [0, 1] -/
def slices_IndexFunc___impl_Sighting_impl_Sighting__c : ACode := (.seq (.reg [⟨(some 4), .assign (.const (.int .i64 0)), none⟩] [0, 1])
  (.seq (.seq (.reg [⟨(some 6), .move (.tmp 0), none⟩,
    ⟨(some 7), .call ⟨.builtin .len, #[(.tmp 6)], #[24]⟩, none⟩,
    ⟨(some 8), .move (.const (.int .i64 0)), none⟩] [0, 1, 7, 8])
  (.block 0 (.loop slices_IndexFunc___impl_Sighting_impl_Sighting__l0)))
  (.seq (.reg [⟨(some 4), .assign (.const (.int .i64 (-1))), none⟩] [4])
  .ret)))
theorem slices_IndexFunc___impl_Sighting_impl_Sighting__k : fnOk Tryz.prog (fun _ => false) 62 = some (slices_IndexFunc___impl_Sighting_impl_Sighting__c.strip, 19, [.tmp 4]) := by kernel_rfl
/-- loop.example/g01062/impl.sightingAt$1: number 63, params [0] -/
def impl_sightingAt_1_c : ACode := (.seq (.reg [⟨(some 2), .box 32 (.tmp 0), none⟩,
    ⟨(some 3), .assign (.const (.bool false)), none⟩] [1, 2])
  (.seq (.reg [⟨(some 4), .fieldAddr 32 (.tmp 2) 0, none⟩,
    ⟨(some 5), .load 3 (.tmp 4), none⟩,
    ⟨(some 6), .load 3 (.tmp 1), none⟩,
    ⟨(some 7), .binOp .eql 3 (.tmp 5) (.tmp 6) 3, none⟩,
    ⟨(some 3), .assign (.tmp 7), none⟩] [3])
  .ret))
theorem impl_sightingAt_1_k : fnOk Tryz.prog (fun _ => false) 63 = some (impl_sightingAt_1_c.strip, 8, [.tmp 3]) := by kernel_rfl
/-- loop.example/g01062/spec.l1In: number 67, params [0, 1, 2] -/
def spec_l1In_c : ACode := (.seq (.reg [⟨(some 6), .assign (.const (.bool false)), none⟩] [0, 1, 2])
  (.seq (.reg [⟨(some 7), .move (.tmp 0), none⟩,
    ⟨(some 8), .move (.tmp 1), none⟩,
    ⟨(some 9), .binOp .geq 3 (.tmp 7) (.tmp 8) 3, none⟩,
    ⟨(some 10), .move (.tmp 9), none⟩,
    ⟨(some 11), .move (.tmp 0), (some (some 10, true))⟩,
    ⟨(some 12), .move (.tmp 2), (some (some 10, true))⟩,
    ⟨(some 13), .binOp .leq 3 (.tmp 11) (.tmp 12) 3, (some (some 10, true))⟩,
    ⟨(some 14), .pick (.tmp 10) (.tmp 13) (.const (.bool false)), none⟩,
    ⟨(some 6), .assign (.tmp 14), none⟩] [6])
  .ret))
theorem spec_l1In_k : fnOk Tryz.prog (fun _ => false) 67 = some (spec_l1In_c.strip, 15, [.tmp 6]) := by kernel_rfl
/-- head: [0, 3] -/
def spec_l2Word_l0 : ACode := (.seq (.seq (.reg [⟨(some 4), .move (.tmp 3), none⟩,
    ⟨(some 5), .move (.tmp 0), none⟩,
    ⟨(some 6), .call ⟨.builtin .len, #[(.tmp 5)], #[9]⟩, none⟩,
    ⟨(some 7), .binOp .lss 3 (.tmp 4) (.tmp 6) 3, none⟩] [0, 3, 7])
  (.cond (.tmp 7) .skip
  (.exit 0)))
  (.seq (.block 1 (.seq (.reg [⟨(some 10), .move (.tmp 0), none⟩,
    ⟨(some 11), .move (.tmp 3), none⟩,
    ⟨(some 12), .index 9 (.tmp 10) (.tmp 11), none⟩,
    ⟨(some 13), .binOp .lss 5 (.tmp 12) (.const (.int .u8 97)) 5, none⟩,
    ⟨(some 14), .move (.tmp 13), none⟩,
    ⟨(some 15), .move (.tmp 0), (some (some 14, false))⟩,
    ⟨(some 16), .move (.tmp 3), (some (some 14, false))⟩,
    ⟨(some 17), .index 9 (.tmp 15) (.tmp 16), (some (some 14, false))⟩,
    ⟨(some 18), .binOp .gtr 5 (.tmp 17) (.const (.int .u8 122)) 5, (some (some 14, false))⟩,
    ⟨(some 19), .pick (.tmp 14) (.const (.bool true)) (.tmp 18), none⟩] [0, 3, 19])
  (.cond (.tmp 19) (.seq (.reg [⟨(some 2), .assign (.const (.bool false)), none⟩] [2])
  .ret)
  .skip)))
  (.reg [⟨(some 8), .move (.tmp 3), none⟩,
    ⟨(some 9), .binOp .add 3 (.tmp 8) (.const (.int .i64 1)) 3, none⟩,
    ⟨(some 3), .assign (.tmp 9), none⟩] [0, 3])))
/-- loop.example/g01062/spec.l2Word: number 74, params [0] -/
def spec_l2Word_c : ACode := (.seq (.reg [⟨(some 2), .assign (.const (.bool false)), none⟩] [0])
  (.seq (.seq (.reg [⟨(some 3), .assign (.const (.int .i64 0)), none⟩] [0, 3])
  (.block 0 (.loop spec_l2Word_l0)))
  (.seq (.reg [⟨(some 20), .move (.tmp 0), none⟩,
    ⟨(some 21), .call ⟨.builtin .len, #[(.tmp 20)], #[9]⟩, none⟩,
    ⟨(some 22), .call ⟨.value (.func 67), #[(.tmp 21), (.const (.int .i64 1)), (.const (.int .i64 10))], #[3, 3, 3]⟩, none⟩,
    ⟨(some 2), .assign (.tmp 22), none⟩] [2])
  .ret)))
theorem spec_l2Word_k : fnOk Tryz.prog (fun _ => false) 74 = some (spec_l2Word_c.strip, 23, [.tmp 2]) := by kernel_rfl
/-- head: [0, 1, 2, 7] -/
def spec_l1Rising_l0 : ACode := (.seq (.seq (.reg [⟨(some 8), .move (.tmp 7), none⟩,
    ⟨(some 9), .move (.tmp 0), none⟩,
    ⟨(some 10), .call ⟨.builtin .len, #[(.tmp 9)], #[30]⟩, none⟩,
    ⟨(some 11), .binOp .lss 3 (.tmp 8) (.tmp 10) 3, none⟩] [0, 1, 2, 7, 11])
  (.cond (.tmp 11) .skip
  (.exit 0)))
  (.seq (.block 1 (.seq (.regQ [⟨(some 14), .move (.tmp 0), none⟩,
    ⟨(some 15), .move (.tmp 7), none⟩,
    ⟨(some 16), .indexAddr 30 (.tmp 14) (.tmp 15), none⟩,
    ⟨(some 17), .load 3 (.tmp 16), none⟩,
    ⟨(some 18), .move (.tmp 1), none⟩,
    ⟨(some 19), .move (.tmp 2), none⟩,
    ⟨(some 20), .call ⟨.value (.func 67), #[(.tmp 17), (.tmp 18), (.tmp 19)], #[3, 3, 3]⟩, none⟩,
    ⟨(some 21), .unOp .not 4 (.tmp 20), none⟩,
    ⟨(some 22), .move (.tmp 21), none⟩,
    ⟨(some 23), .move (.tmp 7), (some (some 22, false))⟩,
    ⟨(some 24), .binOp .gtr 3 (.tmp 23) (.const (.int .i64 0)) 3, (some (some 22, false))⟩,
    ⟨(some 25), .move (.tmp 24), (some (some 22, false))⟩,
    ⟨(some 26), .move (.tmp 0), (some (some 25, true))⟩,
    ⟨(some 27), .move (.tmp 7), (some (some 25, true))⟩,
    ⟨(some 28), .binOp .sub 3 (.tmp 27) (.const (.int .i64 1)) 3, (some (some 25, true))⟩,
    ⟨(some 29), .indexAddr 30 (.tmp 26) (.tmp 28), (some (some 25, true))⟩,
    ⟨(some 30), .load 3 (.tmp 29), (some (some 25, true))⟩,
    ⟨(some 31), .move (.tmp 0), (some (some 25, true))⟩,
    ⟨(some 32), .move (.tmp 7), (some (some 25, true))⟩,
    ⟨(some 33), .indexAddr 30 (.tmp 31) (.tmp 32), (some (some 25, true))⟩,
    ⟨(some 34), .load 3 (.tmp 33), (some (some 25, true))⟩,
    ⟨(some 35), .binOp .geq 3 (.tmp 30) (.tmp 34) 3, (some (some 25, true))⟩,
    ⟨(some 36), .pick (.tmp 25) (.tmp 35) (.const (.bool false)), (some (some 22, false))⟩,
    ⟨(some 37), .pick (.tmp 22) (.const (.bool true)) (.tmp 36), none⟩] [0, 1, 2, 7, 37])
  (.cond (.tmp 37) (.seq (.reg [⟨(some 6), .assign (.const (.bool false)), none⟩] [6])
  .ret)
  .skip)))
  (.reg [⟨(some 12), .move (.tmp 7), none⟩,
    ⟨(some 13), .binOp .add 3 (.tmp 12) (.const (.int .i64 1)) 3, none⟩,
    ⟨(some 7), .assign (.tmp 13), none⟩] [0, 1, 2, 7])))
/-- loop.example/g01062/spec.l1Rising: number 75, params [0, 1, 2] -/
def spec_l1Rising_c : ACode := (.seq (.reg [⟨(some 6), .assign (.const (.bool false)), none⟩] [0, 1, 2])
  (.seq (.seq (.reg [⟨(some 7), .assign (.const (.int .i64 0)), none⟩] [0, 1, 2, 7])
  (.block 0 (.loop spec_l1Rising_l0)))
  (.seq (.reg [⟨(some 6), .assign (.const (.bool true)), none⟩] [6])
  .ret)))
theorem spec_l1Rising_k : fnOk Tryz.prog (fun _ => false) 75 = some (spec_l1Rising_c.strip, 38, [.tmp 6]) := by kernel_rfl
/-- head: [0, 1, 7, 8] -/
def slices_Index___int_int__l0 : ACode := (.seq (.reg [⟨(some 9), .binOp .lss 3 (.tmp 8) (.tmp 7) 3, none⟩] [0, 1, 7, 8, 9])
  (.seq (.cond (.tmp 9) .skip
  (.exit 0))
  (.seq (.block 1 (.seq (.reg [⟨(some 10), .move (.tmp 8), none⟩,
    ⟨(some 5), .assign (.tmp 10), none⟩] [0, 1, 5, 7, 8])
  (.seq (.reg [⟨(some 11), .move (.tmp 1), none⟩,
    ⟨(some 12), .move (.tmp 0), none⟩,
    ⟨(some 13), .move (.tmp 5), none⟩,
    ⟨(some 14), .indexAddr 30 (.tmp 12) (.tmp 13), none⟩,
    ⟨(some 15), .load 3 (.tmp 14), none⟩,
    ⟨(some 16), .binOp .eql 3 (.tmp 11) (.tmp 15) 3, none⟩] [0, 1, 5, 7, 8, 16])
  (.cond (.tmp 16) (.seq (.reg [⟨(some 17), .move (.tmp 5), none⟩,
    ⟨(some 4), .assign (.tmp 17), none⟩] [4])
  .ret)
  .skip))))
  (.reg [⟨(some 18), .binOp .add 3 (.tmp 8) (.const (.int .i64 1)) 3, none⟩,
    ⟨(some 8), .move (.tmp 18), none⟩] [0, 1, 7, 8]))))
/-- slices.Index[[]int,int]: number 76, params [0, 1] -/
def slices_Index___int_int__c : ACode := (.seq (.reg [⟨(some 4), .assign (.const (.int .i64 0)), none⟩] [0, 1])
  (.seq (.seq (.reg [⟨(some 6), .move (.tmp 0), none⟩,
    ⟨(some 7), .call ⟨.builtin .len, #[(.tmp 6)], #[30]⟩, none⟩,
    ⟨(some 8), .move (.const (.int .i64 0)), none⟩] [0, 1, 7, 8])
  (.block 0 (.loop slices_Index___int_int__l0)))
  (.seq (.reg [⟨(some 4), .assign (.const (.int .i64 (-1))), none⟩] [4])
  .ret)))
theorem slices_Index___int_int__k : fnOk Tryz.prog (fun _ => false) 76 = some (slices_Index___int_int__c.strip, 19, [.tmp 4]) := by kernel_rfl
end Go.Proofs.YtafenginfojcmaaGreatDoor

