/- Printed by a program of ours: the functions' abstract code and facts on their types. -/
import Derived.Test.YtnbhpdajikmnkaaAbsP
import Derived.Test.YtnbhpdajikmnkaaProg
import Derived.KernelRfl
set_option maxRecDepth 8000
namespace Go.Proofs.Ytnbhpdajikmnkaa
open Go Go.RowKit
@[simp] theorem dk_3 : dK Try.prog 3 = some (.int .i64) := by kernel_rfl
@[simp] theorem ty_3 : tyK Try.prog 3 = some .cell := by kernel_rfl
@[simp] theorem zero_3 : zeroK Try.prog 3 = some [.int .i64 0] := by kernel_rfl
@[simp] theorem dk_4 : dK Try.prog 4 = some .bool := by kernel_rfl
@[simp] theorem ty_4 : tyK Try.prog 4 = some .cell := by kernel_rfl
@[simp] theorem zero_4 : zeroK Try.prog 4 = some [.bool false] := by kernel_rfl
@[simp] theorem sl_22 : slK Try.prog 22 = some (49, 4, 32) := by kernel_rfl
@[simp] theorem dk_22 : dK Try.prog 22 = some .slc := by kernel_rfl
@[simp] theorem ty_22 : tyK Try.prog 22 = some .cell := by kernel_rfl
@[simp] theorem zero_22 : zeroK Try.prog 22 = some [.nils] := by kernel_rfl
@[simp] theorem sl_25 : slK Try.prog 25 = some (47, 4, 32) := by kernel_rfl
@[simp] theorem dk_25 : dK Try.prog 25 = some .slc := by kernel_rfl
@[simp] theorem ty_25 : tyK Try.prog 25 = some .cell := by kernel_rfl
@[simp] theorem zero_25 : zeroK Try.prog 25 = some [.nils] := by kernel_rfl
@[simp] theorem sl_32 : slK Try.prog 32 = some (3, 1, 8) := by kernel_rfl
@[simp] theorem dk_32 : dK Try.prog 32 = some .slc := by kernel_rfl
@[simp] theorem ty_32 : tyK Try.prog 32 = some .cell := by kernel_rfl
@[simp] theorem zero_32 : zeroK Try.prog 32 = some [.nils] := by kernel_rfl
@[simp] theorem ty_47 : tyK Try.prog 47 = some (.obj 4) := by kernel_rfl
@[simp] theorem fld_47_0 : fldK Try.prog 47 0 = some 0 := by kernel_rfl
@[simp] theorem fld_47_1 : fldK Try.prog 47 1 = some 1 := by kernel_rfl
@[simp] theorem fld_47_2 : fldK Try.prog 47 2 = some 2 := by kernel_rfl
@[simp] theorem fld_47_3 : fldK Try.prog 47 3 = some 3 := by kernel_rfl
@[simp] theorem pl_47 : plK Try.prog 47 = some (some [(0, 1), (1, 1), (2, 1), (3, 1)]) := by kernel_rfl
@[simp] theorem zero_47 : zeroK Try.prog 47 = some [.int .i64 0, .int .i64 0, .int .i64 0, .int .i64 0] := by kernel_rfl
@[simp] theorem ty_49 : tyK Try.prog 49 = some (.obj 4) := by kernel_rfl
@[simp] theorem fld_49_0 : fldK Try.prog 49 0 = some 0 := by kernel_rfl
@[simp] theorem fld_49_1 : fldK Try.prog 49 1 = some 1 := by kernel_rfl
@[simp] theorem fld_49_2 : fldK Try.prog 49 2 = some 2 := by kernel_rfl
@[simp] theorem fld_49_3 : fldK Try.prog 49 3 = some 3 := by kernel_rfl
@[simp] theorem pl_49 : plK Try.prog 49 = some (some [(0, 1), (1, 1), (2, 1), (3, 1)]) := by kernel_rfl
@[simp] theorem zero_49 : zeroK Try.prog 49 = some [.int .i64 0, .int .i64 0, .int .i64 0, .int .i64 0] := by kernel_rfl
/-- loop.example/g01062/laws.FnExactAreFlaws: number 3, params [0] -/
def laws_FnExactAreFlaws_c : ACode := (.seq (.reg [⟨(some 2), .assign (.const (.bool false)), none⟩] [0])
  (.seq (.reg [⟨(some 3), .assign (.const (.int .i64 1048576)), none⟩] [0, 3])
  (.seq (.reg [⟨(some 7), .move (.tmp 0), none⟩,
    ⟨(some 8), .move (.tmp 3), none⟩,
    ⟨(some 9), .call ⟨.value (.func 10), #[(.tmp 7), (.tmp 8)], #[22, 3]⟩, none⟩,
    ⟨(some 3), .assign (.tmp 9), none⟩] [0, 3])
  (.seq (.seq (.reg [⟨(some 10), .move (.tmp 3), none⟩,
    ⟨(some 11), .binOp .lss 3 (.tmp 10) (.const (.int .i64 0)) 3, none⟩] [0, 11])
  (.cond (.tmp 11) (.seq (.reg [⟨(some 2), .assign (.const (.bool true)), none⟩] [2])
  .ret)
  .skip))
  (.seq (.reg [⟨(some 12), .move (.tmp 0), none⟩,
    ⟨(some 13), .call ⟨.value (.func 12), #[(.tmp 12)], #[22]⟩, none⟩,
    ⟨(some 14), .call ⟨.value (.func 11), #[(.tmp 13)], #[25]⟩, none⟩,
    ⟨(some 4), .assign (.tmp 14), none⟩] [0, 4])
  (.seq (.reg [⟨(some 15), .move (.tmp 0), none⟩,
    ⟨(some 16), .call ⟨.value (.func 12), #[(.tmp 15)], #[22]⟩, none⟩,
    ⟨(some 5), .assign (.tmp 16), none⟩] [0, 4, 5])
  (.seq (.reg [⟨(some 17), .move (.tmp 5), none⟩,
    ⟨(some 18), .call ⟨.value (.func 13), #[(.tmp 17)], #[25]⟩, none⟩,
    ⟨(some 6), .assign (.tmp 18), none⟩] [0, 4, 5, 6])
  (.seq (.seq (.reg [⟨(some 19), .move (.tmp 6), none⟩,
    ⟨(some 20), .move (.tmp 4), none⟩,
    ⟨(some 21), .binOp .neq 4 (.tmp 19) (.tmp 20) 4, none⟩] [0, 5, 21])
  (.cond (.tmp 21) (.seq (.reg [⟨(some 2), .assign (.const (.bool false)), none⟩] [2])
  .ret)
  .skip))
  (.seq (.seq (.reg [⟨(some 22), .move (.tmp 5), none⟩,
    ⟨(some 23), .move (.tmp 0), none⟩,
    ⟨(some 24), .call ⟨.value (.func 12), #[(.tmp 23)], #[22]⟩, none⟩,
    ⟨(some 25), .call ⟨.value (.func 14), #[(.tmp 22), (.tmp 24)], #[25, 25]⟩, none⟩,
    ⟨(some 26), .unOp .not 4 (.tmp 25), none⟩] [26])
  (.cond (.tmp 26) (.seq (.reg [⟨(some 2), .assign (.const (.bool false)), none⟩] [2])
  .ret)
  .skip))
  (.seq (.reg [⟨(some 2), .assign (.const (.bool true)), none⟩] [2])
  .ret))))))))))
theorem laws_FnExactAreFlaws_k : fnOk Try.prog 3 = some (laws_FnExactAreFlaws_c.strip, 27, [.tmp 2]) := by kernel_rfl
/-- loop.example/g01062/laws.FnExactCleanPositions: number 4, params [0, 1] -/
def laws_FnExactCleanPositions_c : ACode := (.seq (.reg [⟨(some 4), .assign (.const (.bool false)), none⟩] [0, 1])
  (.seq (.reg [⟨(some 5), .assign (.const (.int .i64 1048576)), none⟩] [0, 1, 5])
  (.seq (.reg [⟨(some 11), .move (.tmp 0), none⟩,
    ⟨(some 12), .move (.tmp 5), none⟩,
    ⟨(some 13), .call ⟨.value (.func 10), #[(.tmp 11), (.tmp 12)], #[22, 3]⟩, none⟩,
    ⟨(some 5), .assign (.tmp 13), none⟩] [0, 1, 5])
  (.seq (.seq (.reg [⟨(some 14), .move (.tmp 5), none⟩,
    ⟨(some 15), .binOp .lss 3 (.tmp 14) (.const (.int .i64 0)) 3, none⟩] [0, 1, 15])
  (.cond (.tmp 15) (.seq (.reg [⟨(some 4), .assign (.const (.bool true)), none⟩] [4])
  .ret)
  .skip))
  (.seq (.reg [⟨(some 17), .move (.tmp 0), none⟩,
    ⟨(some 18), .call ⟨.value (.func 12), #[(.tmp 17)], #[22]⟩, none⟩,
    ⟨(some 19), .move (.tmp 1), none⟩,
    ⟨(some 20), .call ⟨.value (.func 15), #[(.tmp 18), (.tmp 19)], #[25, 3]⟩, none⟩,
    ⟨(some 16), .move (.tmp 20), none⟩,
    ⟨(some 21), .extract (.tmp 16) 0, none⟩,
    ⟨(some 22), .extract (.tmp 16) 1, none⟩,
    ⟨(some 6), .assign (.tmp 21), none⟩,
    ⟨(some 7), .assign (.tmp 22), none⟩] [0, 1, 6, 7])
  (.seq (.reg [⟨(some 23), .move (.tmp 0), none⟩,
    ⟨(some 24), .call ⟨.value (.func 12), #[(.tmp 23)], #[22]⟩, none⟩,
    ⟨(some 8), .assign (.tmp 24), none⟩] [0, 1, 6, 7, 8])
  (.seq (.reg [⟨(some 26), .move (.tmp 8), none⟩,
    ⟨(some 27), .move (.tmp 1), none⟩,
    ⟨(some 28), .call ⟨.value (.func 16), #[(.tmp 26), (.tmp 27)], #[25, 3]⟩, none⟩,
    ⟨(some 25), .move (.tmp 28), none⟩,
    ⟨(some 29), .extract (.tmp 25) 0, none⟩,
    ⟨(some 30), .extract (.tmp 25) 1, none⟩,
    ⟨(some 9), .assign (.tmp 29), none⟩,
    ⟨(some 10), .assign (.tmp 30), none⟩] [0, 6, 7, 8, 9, 10])
  (.seq (.seq (.reg [⟨(some 31), .move (.tmp 9), none⟩,
    ⟨(some 32), .move (.tmp 6), none⟩,
    ⟨(some 33), .binOp .neq 3 (.tmp 31) (.tmp 32) 3, none⟩,
    ⟨(some 34), .move (.tmp 33), none⟩,
    ⟨(some 35), .move (.tmp 10), (some (some 34, false))⟩,
    ⟨(some 36), .move (.tmp 7), (some (some 34, false))⟩,
    ⟨(some 37), .binOp .neq 4 (.tmp 35) (.tmp 36) 4, (some (some 34, false))⟩,
    ⟨(some 38), .pick (.tmp 34) (.const (.bool true)) (.tmp 37), none⟩] [0, 8, 38])
  (.cond (.tmp 38) (.seq (.reg [⟨(some 4), .assign (.const (.bool false)), none⟩] [4])
  .ret)
  .skip))
  (.seq (.seq (.reg [⟨(some 39), .move (.tmp 8), none⟩,
    ⟨(some 40), .move (.tmp 0), none⟩,
    ⟨(some 41), .call ⟨.value (.func 12), #[(.tmp 40)], #[22]⟩, none⟩,
    ⟨(some 42), .call ⟨.value (.func 14), #[(.tmp 39), (.tmp 41)], #[25, 25]⟩, none⟩,
    ⟨(some 43), .unOp .not 4 (.tmp 42), none⟩] [43])
  (.cond (.tmp 43) (.seq (.reg [⟨(some 4), .assign (.const (.bool false)), none⟩] [4])
  .ret)
  .skip))
  (.seq (.reg [⟨(some 4), .assign (.const (.bool true)), none⟩] [4])
  .ret))))))))))
theorem laws_FnExactCleanPositions_k : fnOk Try.prog 4 = some (laws_FnExactCleanPositions_c.strip, 44, [.tmp 4]) := by kernel_rfl
/-- loop.example/g01062/laws.FnExactEarlyFlaws: number 5, params [0, 1] -/
def laws_FnExactEarlyFlaws_c : ACode := (.seq (.reg [⟨(some 4), .assign (.const (.bool false)), none⟩] [0, 1])
  (.seq (.reg [⟨(some 5), .assign (.const (.int .i64 1048576)), none⟩] [0, 1, 5])
  (.seq (.reg [⟨(some 16), .move (.tmp 0), none⟩,
    ⟨(some 17), .move (.tmp 5), none⟩,
    ⟨(some 18), .call ⟨.value (.func 10), #[(.tmp 16), (.tmp 17)], #[22, 3]⟩, none⟩,
    ⟨(some 5), .assign (.tmp 18), none⟩] [0, 1, 5])
  (.seq (.seq (.reg [⟨(some 19), .move (.tmp 5), none⟩,
    ⟨(some 20), .binOp .lss 3 (.tmp 19) (.const (.int .i64 0)) 3, none⟩] [0, 1, 20])
  (.cond (.tmp 20) (.seq (.reg [⟨(some 4), .assign (.const (.bool true)), none⟩] [4])
  .ret)
  .skip))
  (.seq (.reg [⟨(some 22), .move (.tmp 0), none⟩,
    ⟨(some 23), .call ⟨.value (.func 12), #[(.tmp 22)], #[22]⟩, none⟩,
    ⟨(some 24), .move (.tmp 1), none⟩,
    ⟨(some 25), .call ⟨.value (.func 17), #[(.tmp 23), (.tmp 24)], #[25, 3]⟩, none⟩,
    ⟨(some 21), .move (.tmp 25), none⟩,
    ⟨(some 26), .extract (.tmp 21) 0, none⟩,
    ⟨(some 27), .extract (.tmp 21) 1, none⟩,
    ⟨(some 6), .assign (.tmp 26), none⟩,
    ⟨(some 7), .assign (.tmp 27), none⟩] [0, 1, 6, 7])
  (.seq (.reg [⟨(some 28), .move (.tmp 0), none⟩,
    ⟨(some 29), .call ⟨.value (.func 12), #[(.tmp 28)], #[22]⟩, none⟩,
    ⟨(some 8), .assign (.tmp 29), none⟩] [0, 1, 6, 7, 8])
  (.seq (.reg [⟨(some 31), .move (.tmp 8), none⟩,
    ⟨(some 32), .move (.tmp 1), none⟩,
    ⟨(some 33), .call ⟨.value (.func 18), #[(.tmp 31), (.tmp 32)], #[25, 3]⟩, none⟩,
    ⟨(some 30), .move (.tmp 33), none⟩,
    ⟨(some 34), .extract (.tmp 30) 0, none⟩,
    ⟨(some 35), .extract (.tmp 30) 1, none⟩,
    ⟨(some 9), .assign (.tmp 34), none⟩,
    ⟨(some 10), .assign (.tmp 35), none⟩] [0, 1, 6, 7, 8, 9, 10])
  (.seq (.seq (.reg [⟨(some 36), .move (.tmp 9), none⟩,
    ⟨(some 37), .move (.tmp 6), none⟩,
    ⟨(some 38), .call ⟨.value (.func 19), #[(.tmp 36), (.tmp 37)], #[32, 32]⟩, none⟩,
    ⟨(some 39), .unOp .not 4 (.tmp 38), none⟩,
    ⟨(some 40), .move (.tmp 39), none⟩,
    ⟨(some 41), .move (.tmp 10), (some (some 40, false))⟩,
    ⟨(some 42), .move (.tmp 7), (some (some 40, false))⟩,
    ⟨(some 43), .binOp .neq 4 (.tmp 41) (.tmp 42) 4, (some (some 40, false))⟩,
    ⟨(some 44), .pick (.tmp 40) (.const (.bool true)) (.tmp 43), none⟩] [0, 1, 6, 7, 8, 9, 10, 44])
  (.cond (.tmp 44) (.seq (.reg [⟨(some 4), .assign (.const (.bool false)), none⟩] [4])
  .ret)
  .skip))
  (.seq (.seq (.reg [⟨(some 45), .move (.tmp 8), none⟩,
    ⟨(some 46), .move (.tmp 0), none⟩,
    ⟨(some 47), .call ⟨.value (.func 12), #[(.tmp 46)], #[22]⟩, none⟩,
    ⟨(some 48), .call ⟨.value (.func 14), #[(.tmp 45), (.tmp 47)], #[25, 25]⟩, none⟩,
    ⟨(some 49), .unOp .not 4 (.tmp 48), none⟩] [0, 1, 6, 7, 8, 9, 10, 49])
  (.cond (.tmp 49) (.seq (.reg [⟨(some 4), .assign (.const (.bool false)), none⟩] [4])
  .ret)
  .skip))
  (.seq (.reg [⟨(some 11), .assign (.const (.int .i64 1)), none⟩] [0, 1, 6, 7, 8, 9, 10, 11])
  (.seq (.reg [⟨(some 50), .move (.tmp 8), none⟩,
    ⟨(some 51), .move (.tmp 11), none⟩,
    ⟨(some 52), .call ⟨.value (.func 20), #[(.tmp 50), (.tmp 51)], #[25, 3]⟩, none⟩,
    ⟨(some 11), .assign (.tmp 52), none⟩] [0, 1, 6, 7, 9, 10, 11])
  (.seq (.seq (.reg [⟨(some 53), .move (.tmp 11), none⟩,
    ⟨(some 54), .binOp .lss 3 (.tmp 53) (.const (.int .i64 0)) 3, none⟩,
    ⟨(some 55), .move (.tmp 54), none⟩,
    ⟨(some 56), .move (.tmp 9), (some (some 55, false))⟩,
    ⟨(some 57), .move (.tmp 6), (some (some 55, false))⟩,
    ⟨(some 58), .call ⟨.value (.func 19), #[(.tmp 56), (.tmp 57)], #[32, 32]⟩, (some (some 55, false))⟩,
    ⟨(some 59), .unOp .not 4 (.tmp 58), (some (some 55, false))⟩,
    ⟨(some 60), .pick (.tmp 55) (.const (.bool true)) (.tmp 59), none⟩,
    ⟨(some 61), .move (.tmp 60), none⟩,
    ⟨(some 62), .move (.tmp 10), (some (some 61, false))⟩,
    ⟨(some 63), .move (.tmp 7), (some (some 61, false))⟩,
    ⟨(some 64), .binOp .neq 4 (.tmp 62) (.tmp 63) 4, (some (some 61, false))⟩,
    ⟨(some 65), .pick (.tmp 61) (.const (.bool true)) (.tmp 64), none⟩] [0, 1, 6, 7, 9, 65])
  (.cond (.tmp 65) (.seq (.reg [⟨(some 4), .assign (.const (.bool false)), none⟩] [4])
  .ret)
  .skip))
  (.seq (.reg [⟨(some 12), .assign (.const (.int .i64 1)), none⟩] [0, 1, 6, 7, 9, 12])
  (.seq (.reg [⟨(some 66), .move (.tmp 9), none⟩,
    ⟨(some 67), .move (.tmp 12), none⟩,
    ⟨(some 68), .call ⟨.value (.func 21), #[(.tmp 66), (.tmp 67)], #[32, 3]⟩, none⟩,
    ⟨(some 12), .assign (.tmp 68), none⟩] [0, 1, 6, 7, 9, 12])
  (.seq (.reg [⟨(some 13), .assign (.const (.int .i64 1)), none⟩] [0, 1, 6, 7, 9, 12, 13])
  (.seq (.reg [⟨(some 69), .move (.tmp 9), none⟩,
    ⟨(some 70), .move (.tmp 13), none⟩,
    ⟨(some 71), .call ⟨.value (.func 22), #[(.tmp 69), (.tmp 70)], #[32, 3]⟩, none⟩,
    ⟨(some 13), .assign (.tmp 71), none⟩] [0, 1, 6, 7, 9, 12, 13])
  (.seq (.seq (.reg [⟨(some 72), .move (.tmp 13), none⟩,
    ⟨(some 73), .binOp .lss 3 (.tmp 72) (.const (.int .i64 0)) 3, none⟩] [0, 1, 6, 7, 9, 12, 13, 73])
  (.cond (.tmp 73) (.seq (.reg [⟨(some 4), .assign (.const (.bool false)), none⟩] [4])
  .ret)
  .skip))
  (.seq (.seq (.reg [⟨(some 74), .move (.tmp 13), none⟩,
    ⟨(some 75), .move (.tmp 12), none⟩,
    ⟨(some 76), .binOp .neq 3 (.tmp 74) (.tmp 75) 3, none⟩] [0, 1, 6, 7, 9, 12, 76])
  (.cond (.tmp 76) (.seq (.reg [⟨(some 4), .assign (.const (.bool false)), none⟩] [4])
  .ret)
  .skip))
  (.seq (.reg [⟨(some 78), .move (.tmp 0), none⟩,
    ⟨(some 79), .call ⟨.value (.func 12), #[(.tmp 78)], #[22]⟩, none⟩,
    ⟨(some 80), .move (.tmp 1), none⟩,
    ⟨(some 81), .call ⟨.value (.func 18), #[(.tmp 79), (.tmp 80)], #[25, 3]⟩, none⟩,
    ⟨(some 77), .move (.tmp 81), none⟩,
    ⟨(some 82), .extract (.tmp 77) 0, none⟩,
    ⟨(some 83), .extract (.tmp 77) 1, none⟩,
    ⟨(some 14), .assign (.tmp 82), none⟩,
    ⟨(some 15), .assign (.tmp 83), none⟩] [6, 7, 9, 12, 14, 15])
  (.seq (.seq (.reg [⟨(some 84), .move (.tmp 14), none⟩,
    ⟨(some 85), .move (.tmp 6), none⟩,
    ⟨(some 86), .call ⟨.value (.func 19), #[(.tmp 84), (.tmp 85)], #[32, 32]⟩, none⟩,
    ⟨(some 87), .unOp .not 4 (.tmp 86), none⟩,
    ⟨(some 88), .move (.tmp 87), none⟩,
    ⟨(some 89), .move (.tmp 15), (some (some 88, false))⟩,
    ⟨(some 90), .move (.tmp 7), (some (some 88, false))⟩,
    ⟨(some 91), .binOp .neq 4 (.tmp 89) (.tmp 90) 4, (some (some 88, false))⟩,
    ⟨(some 92), .pick (.tmp 88) (.const (.bool true)) (.tmp 91), none⟩] [9, 12, 92])
  (.cond (.tmp 92) (.seq (.reg [⟨(some 4), .assign (.const (.bool false)), none⟩] [4])
  .ret)
  .skip))
  (.seq (.reg [⟨(some 13), .assign (.const (.int .i64 1)), none⟩] [9, 12, 13])
  (.seq (.reg [⟨(some 93), .move (.tmp 9), none⟩,
    ⟨(some 94), .move (.tmp 13), none⟩,
    ⟨(some 95), .call ⟨.value (.func 22), #[(.tmp 93), (.tmp 94)], #[32, 3]⟩, none⟩,
    ⟨(some 13), .assign (.tmp 95), none⟩] [12, 13])
  (.seq (.seq (.reg [⟨(some 96), .move (.tmp 13), none⟩,
    ⟨(some 97), .binOp .lss 3 (.tmp 96) (.const (.int .i64 0)) 3, none⟩] [12, 13, 97])
  (.cond (.tmp 97) (.seq (.reg [⟨(some 4), .assign (.const (.bool false)), none⟩] [4])
  .ret)
  .skip))
  (.seq (.seq (.reg [⟨(some 98), .move (.tmp 13), none⟩,
    ⟨(some 99), .move (.tmp 12), none⟩,
    ⟨(some 100), .binOp .neq 3 (.tmp 98) (.tmp 99) 3, none⟩] [100])
  (.cond (.tmp 100) (.seq (.reg [⟨(some 4), .assign (.const (.bool false)), none⟩] [4])
  .ret)
  .skip))
  (.seq (.reg [⟨(some 4), .assign (.const (.bool true)), none⟩] [4])
  .ret)))))))))))))))))))))))))
theorem laws_FnExactEarlyFlaws_k : fnOk Try.prog 5 = some (laws_FnExactEarlyFlaws_c.strip, 101, [.tmp 4]) := by kernel_rfl
/-- loop.example/g01062/laws.FnExactCodesAt: number 6, params [0, 1, 2] -/
def laws_FnExactCodesAt_c : ACode := (.seq (.reg [⟨(some 6), .assign (.const (.bool false)), none⟩] [0, 1, 2])
  (.seq (.reg [⟨(some 7), .assign (.const (.int .i64 1048576)), none⟩] [0, 1, 2, 7])
  (.seq (.reg [⟨(some 18), .move (.tmp 0), none⟩,
    ⟨(some 19), .move (.tmp 7), none⟩,
    ⟨(some 20), .call ⟨.value (.func 10), #[(.tmp 18), (.tmp 19)], #[22, 3]⟩, none⟩,
    ⟨(some 7), .assign (.tmp 20), none⟩] [0, 1, 2, 7])
  (.seq (.seq (.reg [⟨(some 21), .move (.tmp 7), none⟩,
    ⟨(some 22), .binOp .lss 3 (.tmp 21) (.const (.int .i64 0)) 3, none⟩] [0, 1, 2, 22])
  (.cond (.tmp 22) (.seq (.reg [⟨(some 6), .assign (.const (.bool true)), none⟩] [6])
  .ret)
  .skip))
  (.seq (.reg [⟨(some 24), .move (.tmp 0), none⟩,
    ⟨(some 25), .call ⟨.value (.func 12), #[(.tmp 24)], #[22]⟩, none⟩,
    ⟨(some 26), .move (.tmp 1), none⟩,
    ⟨(some 27), .move (.tmp 2), none⟩,
    ⟨(some 28), .call ⟨.value (.func 23), #[(.tmp 25), (.tmp 26), (.tmp 27)], #[25, 3, 3]⟩, none⟩,
    ⟨(some 23), .move (.tmp 28), none⟩,
    ⟨(some 29), .extract (.tmp 23) 0, none⟩,
    ⟨(some 30), .extract (.tmp 23) 1, none⟩,
    ⟨(some 8), .assign (.tmp 29), none⟩,
    ⟨(some 9), .assign (.tmp 30), none⟩] [0, 1, 2, 8, 9])
  (.seq (.reg [⟨(some 31), .move (.tmp 0), none⟩,
    ⟨(some 32), .call ⟨.value (.func 12), #[(.tmp 31)], #[22]⟩, none⟩,
    ⟨(some 10), .assign (.tmp 32), none⟩] [0, 1, 2, 8, 9, 10])
  (.seq (.reg [⟨(some 34), .move (.tmp 10), none⟩,
    ⟨(some 35), .move (.tmp 1), none⟩,
    ⟨(some 36), .move (.tmp 2), none⟩,
    ⟨(some 37), .call ⟨.value (.func 24), #[(.tmp 34), (.tmp 35), (.tmp 36)], #[25, 3, 3]⟩, none⟩,
    ⟨(some 33), .move (.tmp 37), none⟩,
    ⟨(some 38), .extract (.tmp 33) 0, none⟩,
    ⟨(some 39), .extract (.tmp 33) 1, none⟩,
    ⟨(some 11), .assign (.tmp 38), none⟩,
    ⟨(some 12), .assign (.tmp 39), none⟩] [0, 1, 2, 8, 9, 10, 11, 12])
  (.seq (.seq (.reg [⟨(some 40), .move (.tmp 11), none⟩,
    ⟨(some 41), .move (.tmp 8), none⟩,
    ⟨(some 42), .call ⟨.value (.func 19), #[(.tmp 40), (.tmp 41)], #[32, 32]⟩, none⟩,
    ⟨(some 43), .unOp .not 4 (.tmp 42), none⟩,
    ⟨(some 44), .move (.tmp 43), none⟩,
    ⟨(some 45), .move (.tmp 12), (some (some 44, false))⟩,
    ⟨(some 46), .move (.tmp 9), (some (some 44, false))⟩,
    ⟨(some 47), .binOp .neq 4 (.tmp 45) (.tmp 46) 4, (some (some 44, false))⟩,
    ⟨(some 48), .pick (.tmp 44) (.const (.bool true)) (.tmp 47), none⟩] [0, 1, 2, 8, 9, 10, 11, 12, 48])
  (.cond (.tmp 48) (.seq (.reg [⟨(some 6), .assign (.const (.bool false)), none⟩] [6])
  .ret)
  .skip))
  (.seq (.seq (.reg [⟨(some 49), .move (.tmp 10), none⟩,
    ⟨(some 50), .move (.tmp 0), none⟩,
    ⟨(some 51), .call ⟨.value (.func 12), #[(.tmp 50)], #[22]⟩, none⟩,
    ⟨(some 52), .call ⟨.value (.func 14), #[(.tmp 49), (.tmp 51)], #[25, 25]⟩, none⟩,
    ⟨(some 53), .unOp .not 4 (.tmp 52), none⟩] [0, 1, 2, 8, 9, 10, 11, 12, 53])
  (.cond (.tmp 53) (.seq (.reg [⟨(some 6), .assign (.const (.bool false)), none⟩] [6])
  .ret)
  .skip))
  (.seq (.reg [⟨(some 13), .assign (.const (.int .i64 1)), none⟩] [0, 1, 2, 8, 9, 10, 11, 12, 13])
  (.seq (.reg [⟨(some 54), .move (.tmp 10), none⟩,
    ⟨(some 55), .move (.tmp 13), none⟩,
    ⟨(some 56), .call ⟨.value (.func 20), #[(.tmp 54), (.tmp 55)], #[25, 3]⟩, none⟩,
    ⟨(some 13), .assign (.tmp 56), none⟩] [0, 1, 2, 8, 9, 11, 12, 13])
  (.seq (.seq (.reg [⟨(some 57), .move (.tmp 13), none⟩,
    ⟨(some 58), .binOp .lss 3 (.tmp 57) (.const (.int .i64 0)) 3, none⟩,
    ⟨(some 59), .move (.tmp 58), none⟩,
    ⟨(some 60), .move (.tmp 11), (some (some 59, false))⟩,
    ⟨(some 61), .move (.tmp 8), (some (some 59, false))⟩,
    ⟨(some 62), .call ⟨.value (.func 19), #[(.tmp 60), (.tmp 61)], #[32, 32]⟩, (some (some 59, false))⟩,
    ⟨(some 63), .unOp .not 4 (.tmp 62), (some (some 59, false))⟩,
    ⟨(some 64), .pick (.tmp 59) (.const (.bool true)) (.tmp 63), none⟩,
    ⟨(some 65), .move (.tmp 64), none⟩,
    ⟨(some 66), .move (.tmp 12), (some (some 65, false))⟩,
    ⟨(some 67), .move (.tmp 9), (some (some 65, false))⟩,
    ⟨(some 68), .binOp .neq 4 (.tmp 66) (.tmp 67) 4, (some (some 65, false))⟩,
    ⟨(some 69), .pick (.tmp 65) (.const (.bool true)) (.tmp 68), none⟩] [0, 1, 2, 8, 9, 11, 69])
  (.cond (.tmp 69) (.seq (.reg [⟨(some 6), .assign (.const (.bool false)), none⟩] [6])
  .ret)
  .skip))
  (.seq (.reg [⟨(some 14), .assign (.const (.int .i64 1)), none⟩] [0, 1, 2, 8, 9, 11, 14])
  (.seq (.reg [⟨(some 70), .move (.tmp 11), none⟩,
    ⟨(some 71), .move (.tmp 14), none⟩,
    ⟨(some 72), .call ⟨.value (.func 21), #[(.tmp 70), (.tmp 71)], #[32, 3]⟩, none⟩,
    ⟨(some 14), .assign (.tmp 72), none⟩] [0, 1, 2, 8, 9, 11, 14])
  (.seq (.reg [⟨(some 15), .assign (.const (.int .i64 1)), none⟩] [0, 1, 2, 8, 9, 11, 14, 15])
  (.seq (.reg [⟨(some 73), .move (.tmp 11), none⟩,
    ⟨(some 74), .move (.tmp 15), none⟩,
    ⟨(some 75), .call ⟨.value (.func 22), #[(.tmp 73), (.tmp 74)], #[32, 3]⟩, none⟩,
    ⟨(some 15), .assign (.tmp 75), none⟩] [0, 1, 2, 8, 9, 11, 14, 15])
  (.seq (.seq (.reg [⟨(some 76), .move (.tmp 15), none⟩,
    ⟨(some 77), .binOp .lss 3 (.tmp 76) (.const (.int .i64 0)) 3, none⟩] [0, 1, 2, 8, 9, 11, 14, 15, 77])
  (.cond (.tmp 77) (.seq (.reg [⟨(some 6), .assign (.const (.bool false)), none⟩] [6])
  .ret)
  .skip))
  (.seq (.seq (.reg [⟨(some 78), .move (.tmp 15), none⟩,
    ⟨(some 79), .move (.tmp 14), none⟩,
    ⟨(some 80), .binOp .neq 3 (.tmp 78) (.tmp 79) 3, none⟩] [0, 1, 2, 8, 9, 11, 14, 80])
  (.cond (.tmp 80) (.seq (.reg [⟨(some 6), .assign (.const (.bool false)), none⟩] [6])
  .ret)
  .skip))
  (.seq (.reg [⟨(some 82), .move (.tmp 0), none⟩,
    ⟨(some 83), .call ⟨.value (.func 12), #[(.tmp 82)], #[22]⟩, none⟩,
    ⟨(some 84), .move (.tmp 1), none⟩,
    ⟨(some 85), .move (.tmp 2), none⟩,
    ⟨(some 86), .call ⟨.value (.func 24), #[(.tmp 83), (.tmp 84), (.tmp 85)], #[25, 3, 3]⟩, none⟩,
    ⟨(some 81), .move (.tmp 86), none⟩,
    ⟨(some 87), .extract (.tmp 81) 0, none⟩,
    ⟨(some 88), .extract (.tmp 81) 1, none⟩,
    ⟨(some 16), .assign (.tmp 87), none⟩,
    ⟨(some 17), .assign (.tmp 88), none⟩] [8, 9, 11, 14, 16, 17])
  (.seq (.seq (.reg [⟨(some 89), .move (.tmp 16), none⟩,
    ⟨(some 90), .move (.tmp 8), none⟩,
    ⟨(some 91), .call ⟨.value (.func 19), #[(.tmp 89), (.tmp 90)], #[32, 32]⟩, none⟩,
    ⟨(some 92), .unOp .not 4 (.tmp 91), none⟩,
    ⟨(some 93), .move (.tmp 92), none⟩,
    ⟨(some 94), .move (.tmp 17), (some (some 93, false))⟩,
    ⟨(some 95), .move (.tmp 9), (some (some 93, false))⟩,
    ⟨(some 96), .binOp .neq 4 (.tmp 94) (.tmp 95) 4, (some (some 93, false))⟩,
    ⟨(some 97), .pick (.tmp 93) (.const (.bool true)) (.tmp 96), none⟩] [11, 14, 97])
  (.cond (.tmp 97) (.seq (.reg [⟨(some 6), .assign (.const (.bool false)), none⟩] [6])
  .ret)
  .skip))
  (.seq (.reg [⟨(some 15), .assign (.const (.int .i64 1)), none⟩] [11, 14, 15])
  (.seq (.reg [⟨(some 98), .move (.tmp 11), none⟩,
    ⟨(some 99), .move (.tmp 15), none⟩,
    ⟨(some 100), .call ⟨.value (.func 22), #[(.tmp 98), (.tmp 99)], #[32, 3]⟩, none⟩,
    ⟨(some 15), .assign (.tmp 100), none⟩] [14, 15])
  (.seq (.seq (.reg [⟨(some 101), .move (.tmp 15), none⟩,
    ⟨(some 102), .binOp .lss 3 (.tmp 101) (.const (.int .i64 0)) 3, none⟩] [14, 15, 102])
  (.cond (.tmp 102) (.seq (.reg [⟨(some 6), .assign (.const (.bool false)), none⟩] [6])
  .ret)
  .skip))
  (.seq (.seq (.reg [⟨(some 103), .move (.tmp 15), none⟩,
    ⟨(some 104), .move (.tmp 14), none⟩,
    ⟨(some 105), .binOp .neq 3 (.tmp 103) (.tmp 104) 3, none⟩] [105])
  (.cond (.tmp 105) (.seq (.reg [⟨(some 6), .assign (.const (.bool false)), none⟩] [6])
  .ret)
  .skip))
  (.seq (.reg [⟨(some 6), .assign (.const (.bool true)), none⟩] [6])
  .ret)))))))))))))))))))))))))
theorem laws_FnExactCodesAt_k : fnOk Try.prog 6 = some (laws_FnExactCodesAt_c.strip, 106, [.tmp 6]) := by kernel_rfl
/-- loop.example/g01062/laws.FnExactPositionsFor: number 7, params [0, 1, 2] -/
def laws_FnExactPositionsFor_c : ACode := (.seq (.reg [⟨(some 6), .assign (.const (.bool false)), none⟩] [0, 1, 2])
  (.seq (.seq (.reg [⟨(some 19), .move (.tmp 1), none⟩,
    ⟨(some 20), .call ⟨.builtin .len, #[(.tmp 19)], #[32]⟩, none⟩,
    ⟨(some 21), .binOp .gtr 3 (.tmp 20) (.const (.int .i64 1048576)) 3, none⟩] [0, 1, 2, 21])
  (.cond (.tmp 21) (.seq (.reg [⟨(some 6), .assign (.const (.bool true)), none⟩] [6])
  .ret)
  .skip))
  (.seq (.reg [⟨(some 7), .assign (.const (.int .i64 1048576)), none⟩] [0, 1, 2, 7])
  (.seq (.reg [⟨(some 22), .move (.tmp 0), none⟩,
    ⟨(some 23), .move (.tmp 7), none⟩,
    ⟨(some 24), .call ⟨.value (.func 10), #[(.tmp 22), (.tmp 23)], #[22, 3]⟩, none⟩,
    ⟨(some 7), .assign (.tmp 24), none⟩] [0, 1, 2, 7])
  (.seq (.seq (.reg [⟨(some 25), .move (.tmp 7), none⟩,
    ⟨(some 26), .binOp .lss 3 (.tmp 25) (.const (.int .i64 0)) 3, none⟩] [0, 1, 2, 26])
  (.cond (.tmp 26) (.seq (.reg [⟨(some 6), .assign (.const (.bool true)), none⟩] [6])
  .ret)
  .skip))
  (.seq (.reg [⟨(some 28), .move (.tmp 0), none⟩,
    ⟨(some 29), .call ⟨.value (.func 12), #[(.tmp 28)], #[22]⟩, none⟩,
    ⟨(some 30), .move (.tmp 1), none⟩,
    ⟨(some 31), .call ⟨.value (.func 26), #[(.tmp 30)], #[32]⟩, none⟩,
    ⟨(some 32), .move (.tmp 2), none⟩,
    ⟨(some 33), .call ⟨.value (.func 25), #[(.tmp 29), (.tmp 31), (.tmp 32)], #[25, 32, 3]⟩, none⟩,
    ⟨(some 27), .move (.tmp 33), none⟩,
    ⟨(some 34), .extract (.tmp 27) 0, none⟩,
    ⟨(some 35), .extract (.tmp 27) 1, none⟩,
    ⟨(some 8), .assign (.tmp 34), none⟩,
    ⟨(some 9), .assign (.tmp 35), none⟩] [0, 1, 2, 8, 9])
  (.seq (.reg [⟨(some 36), .move (.tmp 0), none⟩,
    ⟨(some 37), .call ⟨.value (.func 12), #[(.tmp 36)], #[22]⟩, none⟩,
    ⟨(some 10), .assign (.tmp 37), none⟩] [0, 1, 2, 8, 9, 10])
  (.seq (.reg [⟨(some 38), .move (.tmp 1), none⟩,
    ⟨(some 39), .call ⟨.value (.func 26), #[(.tmp 38)], #[32]⟩, none⟩,
    ⟨(some 11), .assign (.tmp 39), none⟩] [0, 1, 2, 8, 9, 10, 11])
  (.seq (.reg [⟨(some 41), .move (.tmp 10), none⟩,
    ⟨(some 42), .move (.tmp 11), none⟩,
    ⟨(some 43), .move (.tmp 2), none⟩,
    ⟨(some 44), .call ⟨.value (.func 27), #[(.tmp 41), (.tmp 42), (.tmp 43)], #[25, 32, 3]⟩, none⟩,
    ⟨(some 40), .move (.tmp 44), none⟩,
    ⟨(some 45), .extract (.tmp 40) 0, none⟩,
    ⟨(some 46), .extract (.tmp 40) 1, none⟩,
    ⟨(some 12), .assign (.tmp 45), none⟩,
    ⟨(some 13), .assign (.tmp 46), none⟩] [0, 1, 2, 8, 9, 10, 11, 12, 13])
  (.seq (.seq (.reg [⟨(some 47), .move (.tmp 12), none⟩,
    ⟨(some 48), .move (.tmp 8), none⟩,
    ⟨(some 49), .call ⟨.value (.func 19), #[(.tmp 47), (.tmp 48)], #[32, 32]⟩, none⟩,
    ⟨(some 50), .unOp .not 4 (.tmp 49), none⟩,
    ⟨(some 51), .move (.tmp 50), none⟩,
    ⟨(some 52), .move (.tmp 13), (some (some 51, false))⟩,
    ⟨(some 53), .move (.tmp 9), (some (some 51, false))⟩,
    ⟨(some 54), .binOp .neq 4 (.tmp 52) (.tmp 53) 4, (some (some 51, false))⟩,
    ⟨(some 55), .pick (.tmp 51) (.const (.bool true)) (.tmp 54), none⟩] [0, 1, 2, 8, 9, 10, 11, 12, 13, 55])
  (.cond (.tmp 55) (.seq (.reg [⟨(some 6), .assign (.const (.bool false)), none⟩] [6])
  .ret)
  .skip))
  (.seq (.seq (.reg [⟨(some 56), .move (.tmp 10), none⟩,
    ⟨(some 57), .move (.tmp 0), none⟩,
    ⟨(some 58), .call ⟨.value (.func 12), #[(.tmp 57)], #[22]⟩, none⟩,
    ⟨(some 59), .call ⟨.value (.func 14), #[(.tmp 56), (.tmp 58)], #[25, 25]⟩, none⟩,
    ⟨(some 60), .unOp .not 4 (.tmp 59), none⟩] [0, 1, 2, 8, 9, 10, 11, 12, 13, 60])
  (.cond (.tmp 60) (.seq (.reg [⟨(some 6), .assign (.const (.bool false)), none⟩] [6])
  .ret)
  .skip))
  (.seq (.seq (.reg [⟨(some 61), .move (.tmp 11), none⟩,
    ⟨(some 62), .move (.tmp 1), none⟩,
    ⟨(some 63), .call ⟨.value (.func 26), #[(.tmp 62)], #[32]⟩, none⟩,
    ⟨(some 64), .call ⟨.value (.func 19), #[(.tmp 61), (.tmp 63)], #[32, 32]⟩, none⟩,
    ⟨(some 65), .unOp .not 4 (.tmp 64), none⟩] [0, 1, 2, 8, 9, 10, 11, 12, 13, 65])
  (.cond (.tmp 65) (.seq (.reg [⟨(some 6), .assign (.const (.bool false)), none⟩] [6])
  .ret)
  .skip))
  (.seq (.reg [⟨(some 14), .assign (.const (.int .i64 1)), none⟩] [0, 1, 2, 8, 9, 10, 11, 12, 13, 14])
  (.seq (.reg [⟨(some 66), .move (.tmp 10), none⟩,
    ⟨(some 67), .move (.tmp 14), none⟩,
    ⟨(some 68), .call ⟨.value (.func 20), #[(.tmp 66), (.tmp 67)], #[25, 3]⟩, none⟩,
    ⟨(some 14), .assign (.tmp 68), none⟩] [0, 1, 2, 8, 9, 11, 12, 13, 14])
  (.seq (.reg [⟨(some 69), .move (.tmp 11), none⟩,
    ⟨(some 70), .move (.tmp 14), none⟩,
    ⟨(some 71), .call ⟨.value (.func 21), #[(.tmp 69), (.tmp 70)], #[32, 3]⟩, none⟩,
    ⟨(some 14), .assign (.tmp 71), none⟩] [0, 1, 2, 8, 9, 12, 13, 14])
  (.seq (.seq (.reg [⟨(some 72), .move (.tmp 14), none⟩,
    ⟨(some 73), .binOp .lss 3 (.tmp 72) (.const (.int .i64 0)) 3, none⟩,
    ⟨(some 74), .move (.tmp 73), none⟩,
    ⟨(some 75), .move (.tmp 12), (some (some 74, false))⟩,
    ⟨(some 76), .move (.tmp 8), (some (some 74, false))⟩,
    ⟨(some 77), .call ⟨.value (.func 19), #[(.tmp 75), (.tmp 76)], #[32, 32]⟩, (some (some 74, false))⟩,
    ⟨(some 78), .unOp .not 4 (.tmp 77), (some (some 74, false))⟩,
    ⟨(some 79), .pick (.tmp 74) (.const (.bool true)) (.tmp 78), none⟩,
    ⟨(some 80), .move (.tmp 79), none⟩,
    ⟨(some 81), .move (.tmp 13), (some (some 80, false))⟩,
    ⟨(some 82), .move (.tmp 9), (some (some 80, false))⟩,
    ⟨(some 83), .binOp .neq 4 (.tmp 81) (.tmp 82) 4, (some (some 80, false))⟩,
    ⟨(some 84), .pick (.tmp 80) (.const (.bool true)) (.tmp 83), none⟩] [0, 1, 2, 8, 9, 12, 84])
  (.cond (.tmp 84) (.seq (.reg [⟨(some 6), .assign (.const (.bool false)), none⟩] [6])
  .ret)
  .skip))
  (.seq (.reg [⟨(some 15), .assign (.const (.int .i64 1)), none⟩] [0, 1, 2, 8, 9, 12, 15])
  (.seq (.reg [⟨(some 85), .move (.tmp 12), none⟩,
    ⟨(some 86), .move (.tmp 15), none⟩,
    ⟨(some 87), .call ⟨.value (.func 21), #[(.tmp 85), (.tmp 86)], #[32, 3]⟩, none⟩,
    ⟨(some 15), .assign (.tmp 87), none⟩] [0, 1, 2, 8, 9, 12, 15])
  (.seq (.reg [⟨(some 16), .assign (.const (.int .i64 1)), none⟩] [0, 1, 2, 8, 9, 12, 15, 16])
  (.seq (.reg [⟨(some 88), .move (.tmp 12), none⟩,
    ⟨(some 89), .move (.tmp 16), none⟩,
    ⟨(some 90), .call ⟨.value (.func 22), #[(.tmp 88), (.tmp 89)], #[32, 3]⟩, none⟩,
    ⟨(some 16), .assign (.tmp 90), none⟩] [0, 1, 2, 8, 9, 12, 15, 16])
  (.seq (.seq (.reg [⟨(some 91), .move (.tmp 16), none⟩,
    ⟨(some 92), .binOp .lss 3 (.tmp 91) (.const (.int .i64 0)) 3, none⟩] [0, 1, 2, 8, 9, 12, 15, 16, 92])
  (.cond (.tmp 92) (.seq (.reg [⟨(some 6), .assign (.const (.bool false)), none⟩] [6])
  .ret)
  .skip))
  (.seq (.seq (.reg [⟨(some 93), .move (.tmp 16), none⟩,
    ⟨(some 94), .move (.tmp 15), none⟩,
    ⟨(some 95), .binOp .neq 3 (.tmp 93) (.tmp 94) 3, none⟩] [0, 1, 2, 8, 9, 12, 15, 95])
  (.cond (.tmp 95) (.seq (.reg [⟨(some 6), .assign (.const (.bool false)), none⟩] [6])
  .ret)
  .skip))
  (.seq (.reg [⟨(some 97), .move (.tmp 0), none⟩,
    ⟨(some 98), .call ⟨.value (.func 12), #[(.tmp 97)], #[22]⟩, none⟩,
    ⟨(some 99), .move (.tmp 1), none⟩,
    ⟨(some 100), .call ⟨.value (.func 26), #[(.tmp 99)], #[32]⟩, none⟩,
    ⟨(some 101), .move (.tmp 2), none⟩,
    ⟨(some 102), .call ⟨.value (.func 27), #[(.tmp 98), (.tmp 100), (.tmp 101)], #[25, 32, 3]⟩, none⟩,
    ⟨(some 96), .move (.tmp 102), none⟩,
    ⟨(some 103), .extract (.tmp 96) 0, none⟩,
    ⟨(some 104), .extract (.tmp 96) 1, none⟩,
    ⟨(some 17), .assign (.tmp 103), none⟩,
    ⟨(some 18), .assign (.tmp 104), none⟩] [8, 9, 12, 15, 17, 18])
  (.seq (.seq (.reg [⟨(some 105), .move (.tmp 17), none⟩,
    ⟨(some 106), .move (.tmp 8), none⟩,
    ⟨(some 107), .call ⟨.value (.func 19), #[(.tmp 105), (.tmp 106)], #[32, 32]⟩, none⟩,
    ⟨(some 108), .unOp .not 4 (.tmp 107), none⟩,
    ⟨(some 109), .move (.tmp 108), none⟩,
    ⟨(some 110), .move (.tmp 18), (some (some 109, false))⟩,
    ⟨(some 111), .move (.tmp 9), (some (some 109, false))⟩,
    ⟨(some 112), .binOp .neq 4 (.tmp 110) (.tmp 111) 4, (some (some 109, false))⟩,
    ⟨(some 113), .pick (.tmp 109) (.const (.bool true)) (.tmp 112), none⟩] [12, 15, 113])
  (.cond (.tmp 113) (.seq (.reg [⟨(some 6), .assign (.const (.bool false)), none⟩] [6])
  .ret)
  .skip))
  (.seq (.reg [⟨(some 16), .assign (.const (.int .i64 1)), none⟩] [12, 15, 16])
  (.seq (.reg [⟨(some 114), .move (.tmp 12), none⟩,
    ⟨(some 115), .move (.tmp 16), none⟩,
    ⟨(some 116), .call ⟨.value (.func 22), #[(.tmp 114), (.tmp 115)], #[32, 3]⟩, none⟩,
    ⟨(some 16), .assign (.tmp 116), none⟩] [15, 16])
  (.seq (.seq (.reg [⟨(some 117), .move (.tmp 16), none⟩,
    ⟨(some 118), .binOp .lss 3 (.tmp 117) (.const (.int .i64 0)) 3, none⟩] [15, 16, 118])
  (.cond (.tmp 118) (.seq (.reg [⟨(some 6), .assign (.const (.bool false)), none⟩] [6])
  .ret)
  .skip))
  (.seq (.seq (.reg [⟨(some 119), .move (.tmp 16), none⟩,
    ⟨(some 120), .move (.tmp 15), none⟩,
    ⟨(some 121), .binOp .neq 3 (.tmp 119) (.tmp 120) 3, none⟩] [121])
  (.cond (.tmp 121) (.seq (.reg [⟨(some 6), .assign (.const (.bool false)), none⟩] [6])
  .ret)
  .skip))
  (.seq (.reg [⟨(some 6), .assign (.const (.bool true)), none⟩] [6])
  .ret)))))))))))))))))))))))))))))
theorem laws_FnExactPositionsFor_k : fnOk Try.prog 7 = some (laws_FnExactPositionsFor_c.strip, 122, [.tmp 6]) := by kernel_rfl
/-- loop.example/g01062/laws.FnExactTellPosition: number 8, params [0, 1] -/
def laws_FnExactTellPosition_c : ACode := (.seq (.reg [⟨(some 4), .assign (.const (.bool false)), none⟩] [0, 1])
  (.seq (.seq (.reg [⟨(some 16), .move (.tmp 1), none⟩,
    ⟨(some 17), .call ⟨.builtin .len, #[(.tmp 16)], #[32]⟩, none⟩,
    ⟨(some 18), .binOp .gtr 3 (.tmp 17) (.const (.int .i64 1048576)) 3, none⟩] [0, 1, 18])
  (.cond (.tmp 18) (.seq (.reg [⟨(some 4), .assign (.const (.bool true)), none⟩] [4])
  .ret)
  .skip))
  (.seq (.reg [⟨(some 5), .assign (.const (.int .i64 1048576)), none⟩] [0, 1, 5])
  (.seq (.reg [⟨(some 19), .move (.tmp 0), none⟩,
    ⟨(some 20), .move (.tmp 5), none⟩,
    ⟨(some 21), .call ⟨.value (.func 10), #[(.tmp 19), (.tmp 20)], #[22, 3]⟩, none⟩,
    ⟨(some 5), .assign (.tmp 21), none⟩] [0, 1, 5])
  (.seq (.seq (.reg [⟨(some 22), .move (.tmp 5), none⟩,
    ⟨(some 23), .binOp .lss 3 (.tmp 22) (.const (.int .i64 0)) 3, none⟩] [0, 1, 23])
  (.cond (.tmp 23) (.seq (.reg [⟨(some 4), .assign (.const (.bool true)), none⟩] [4])
  .ret)
  .skip))
  (.seq (.reg [⟨(some 25), .move (.tmp 0), none⟩,
    ⟨(some 26), .call ⟨.value (.func 12), #[(.tmp 25)], #[22]⟩, none⟩,
    ⟨(some 27), .move (.tmp 1), none⟩,
    ⟨(some 28), .call ⟨.value (.func 26), #[(.tmp 27)], #[32]⟩, none⟩,
    ⟨(some 29), .call ⟨.value (.func 28), #[(.tmp 26), (.tmp 28)], #[25, 32]⟩, none⟩,
    ⟨(some 24), .move (.tmp 29), none⟩,
    ⟨(some 30), .extract (.tmp 24) 0, none⟩,
    ⟨(some 31), .extract (.tmp 24) 1, none⟩,
    ⟨(some 32), .extract (.tmp 24) 2, none⟩,
    ⟨(some 33), .extract (.tmp 24) 3, none⟩,
    ⟨(some 6), .assign (.tmp 30), none⟩,
    ⟨(some 7), .assign (.tmp 31), none⟩,
    ⟨(some 8), .assign (.tmp 32), none⟩,
    ⟨(some 9), .assign (.tmp 33), none⟩] [0, 1, 6, 7, 8, 9])
  (.seq (.reg [⟨(some 34), .move (.tmp 0), none⟩,
    ⟨(some 35), .call ⟨.value (.func 12), #[(.tmp 34)], #[22]⟩, none⟩,
    ⟨(some 10), .assign (.tmp 35), none⟩] [0, 1, 6, 7, 8, 9, 10])
  (.seq (.reg [⟨(some 36), .move (.tmp 1), none⟩,
    ⟨(some 37), .call ⟨.value (.func 26), #[(.tmp 36)], #[32]⟩, none⟩,
    ⟨(some 11), .assign (.tmp 37), none⟩] [0, 1, 6, 7, 8, 9, 10, 11])
  (.seq (.reg [⟨(some 39), .move (.tmp 10), none⟩,
    ⟨(some 40), .move (.tmp 11), none⟩,
    ⟨(some 41), .call ⟨.value (.func 29), #[(.tmp 39), (.tmp 40)], #[25, 32]⟩, none⟩,
    ⟨(some 38), .move (.tmp 41), none⟩,
    ⟨(some 42), .extract (.tmp 38) 0, none⟩,
    ⟨(some 43), .extract (.tmp 38) 1, none⟩,
    ⟨(some 44), .extract (.tmp 38) 2, none⟩,
    ⟨(some 45), .extract (.tmp 38) 3, none⟩,
    ⟨(some 12), .assign (.tmp 42), none⟩,
    ⟨(some 13), .assign (.tmp 43), none⟩,
    ⟨(some 14), .assign (.tmp 44), none⟩,
    ⟨(some 15), .assign (.tmp 45), none⟩] [0, 1, 6, 7, 8, 9, 10, 11, 12, 13, 14, 15])
  (.seq (.seq (.reg [⟨(some 46), .move (.tmp 12), none⟩,
    ⟨(some 47), .move (.tmp 6), none⟩,
    ⟨(some 48), .binOp .neq 3 (.tmp 46) (.tmp 47) 3, none⟩,
    ⟨(some 49), .move (.tmp 48), none⟩,
    ⟨(some 50), .move (.tmp 13), (some (some 49, false))⟩,
    ⟨(some 51), .move (.tmp 7), (some (some 49, false))⟩,
    ⟨(some 52), .binOp .neq 3 (.tmp 50) (.tmp 51) 3, (some (some 49, false))⟩,
    ⟨(some 53), .pick (.tmp 49) (.const (.bool true)) (.tmp 52), none⟩,
    ⟨(some 54), .move (.tmp 53), none⟩,
    ⟨(some 55), .move (.tmp 14), (some (some 54, false))⟩,
    ⟨(some 56), .move (.tmp 8), (some (some 54, false))⟩,
    ⟨(some 57), .binOp .neq 3 (.tmp 55) (.tmp 56) 3, (some (some 54, false))⟩,
    ⟨(some 58), .pick (.tmp 54) (.const (.bool true)) (.tmp 57), none⟩,
    ⟨(some 59), .move (.tmp 58), none⟩,
    ⟨(some 60), .move (.tmp 15), (some (some 59, false))⟩,
    ⟨(some 61), .move (.tmp 9), (some (some 59, false))⟩,
    ⟨(some 62), .binOp .neq 4 (.tmp 60) (.tmp 61) 4, (some (some 59, false))⟩,
    ⟨(some 63), .pick (.tmp 59) (.const (.bool true)) (.tmp 62), none⟩] [0, 1, 10, 11, 63])
  (.cond (.tmp 63) (.seq (.reg [⟨(some 4), .assign (.const (.bool false)), none⟩] [4])
  .ret)
  .skip))
  (.seq (.seq (.reg [⟨(some 64), .move (.tmp 10), none⟩,
    ⟨(some 65), .move (.tmp 0), none⟩,
    ⟨(some 66), .call ⟨.value (.func 12), #[(.tmp 65)], #[22]⟩, none⟩,
    ⟨(some 67), .call ⟨.value (.func 14), #[(.tmp 64), (.tmp 66)], #[25, 25]⟩, none⟩,
    ⟨(some 68), .unOp .not 4 (.tmp 67), none⟩] [1, 11, 68])
  (.cond (.tmp 68) (.seq (.reg [⟨(some 4), .assign (.const (.bool false)), none⟩] [4])
  .ret)
  .skip))
  (.seq (.seq (.reg [⟨(some 69), .move (.tmp 11), none⟩,
    ⟨(some 70), .move (.tmp 1), none⟩,
    ⟨(some 71), .call ⟨.value (.func 26), #[(.tmp 70)], #[32]⟩, none⟩,
    ⟨(some 72), .call ⟨.value (.func 19), #[(.tmp 69), (.tmp 71)], #[32, 32]⟩, none⟩,
    ⟨(some 73), .unOp .not 4 (.tmp 72), none⟩] [73])
  (.cond (.tmp 73) (.seq (.reg [⟨(some 4), .assign (.const (.bool false)), none⟩] [4])
  .ret)
  .skip))
  (.seq (.reg [⟨(some 4), .assign (.const (.bool true)), none⟩] [4])
  .ret)))))))))))))
theorem laws_FnExactTellPosition_k : fnOk Try.prog 8 = some (laws_FnExactTellPosition_c.strip, 74, [.tmp 4]) := by kernel_rfl
/-- loop.example/g01062/laws.FnExactStatesFor: number 9, params [0, 1, 2] -/
def laws_FnExactStatesFor_c : ACode := (.seq (.reg [⟨(some 6), .assign (.const (.bool false)), none⟩] [0, 1, 2])
  (.seq (.seq (.reg [⟨(some 19), .move (.tmp 1), none⟩,
    ⟨(some 20), .call ⟨.builtin .len, #[(.tmp 19)], #[32]⟩, none⟩,
    ⟨(some 21), .binOp .gtr 3 (.tmp 20) (.const (.int .i64 1048576)) 3, none⟩] [0, 1, 2, 21])
  (.cond (.tmp 21) (.seq (.reg [⟨(some 6), .assign (.const (.bool true)), none⟩] [6])
  .ret)
  .skip))
  (.seq (.reg [⟨(some 7), .assign (.const (.int .i64 1048576)), none⟩] [0, 1, 2, 7])
  (.seq (.reg [⟨(some 22), .move (.tmp 0), none⟩,
    ⟨(some 23), .move (.tmp 7), none⟩,
    ⟨(some 24), .call ⟨.value (.func 10), #[(.tmp 22), (.tmp 23)], #[22, 3]⟩, none⟩,
    ⟨(some 7), .assign (.tmp 24), none⟩] [0, 1, 2, 7])
  (.seq (.seq (.reg [⟨(some 25), .move (.tmp 7), none⟩,
    ⟨(some 26), .binOp .lss 3 (.tmp 25) (.const (.int .i64 0)) 3, none⟩] [0, 1, 2, 26])
  (.cond (.tmp 26) (.seq (.reg [⟨(some 6), .assign (.const (.bool true)), none⟩] [6])
  .ret)
  .skip))
  (.seq (.reg [⟨(some 28), .move (.tmp 0), none⟩,
    ⟨(some 29), .call ⟨.value (.func 12), #[(.tmp 28)], #[22]⟩, none⟩,
    ⟨(some 30), .move (.tmp 1), none⟩,
    ⟨(some 31), .call ⟨.value (.func 26), #[(.tmp 30)], #[32]⟩, none⟩,
    ⟨(some 32), .move (.tmp 2), none⟩,
    ⟨(some 33), .call ⟨.value (.func 30), #[(.tmp 29), (.tmp 31), (.tmp 32)], #[25, 32, 3]⟩, none⟩,
    ⟨(some 27), .move (.tmp 33), none⟩,
    ⟨(some 34), .extract (.tmp 27) 0, none⟩,
    ⟨(some 35), .extract (.tmp 27) 1, none⟩,
    ⟨(some 8), .assign (.tmp 34), none⟩,
    ⟨(some 9), .assign (.tmp 35), none⟩] [0, 1, 2, 8, 9])
  (.seq (.reg [⟨(some 36), .move (.tmp 0), none⟩,
    ⟨(some 37), .call ⟨.value (.func 12), #[(.tmp 36)], #[22]⟩, none⟩,
    ⟨(some 10), .assign (.tmp 37), none⟩] [0, 1, 2, 8, 9, 10])
  (.seq (.reg [⟨(some 38), .move (.tmp 1), none⟩,
    ⟨(some 39), .call ⟨.value (.func 26), #[(.tmp 38)], #[32]⟩, none⟩,
    ⟨(some 11), .assign (.tmp 39), none⟩] [0, 1, 2, 8, 9, 10, 11])
  (.seq (.reg [⟨(some 41), .move (.tmp 10), none⟩,
    ⟨(some 42), .move (.tmp 11), none⟩,
    ⟨(some 43), .move (.tmp 2), none⟩,
    ⟨(some 44), .call ⟨.value (.func 31), #[(.tmp 41), (.tmp 42), (.tmp 43)], #[25, 32, 3]⟩, none⟩,
    ⟨(some 40), .move (.tmp 44), none⟩,
    ⟨(some 45), .extract (.tmp 40) 0, none⟩,
    ⟨(some 46), .extract (.tmp 40) 1, none⟩,
    ⟨(some 12), .assign (.tmp 45), none⟩,
    ⟨(some 13), .assign (.tmp 46), none⟩] [0, 1, 2, 8, 9, 10, 11, 12, 13])
  (.seq (.seq (.reg [⟨(some 47), .move (.tmp 12), none⟩,
    ⟨(some 48), .move (.tmp 8), none⟩,
    ⟨(some 49), .call ⟨.value (.func 19), #[(.tmp 47), (.tmp 48)], #[32, 32]⟩, none⟩,
    ⟨(some 50), .unOp .not 4 (.tmp 49), none⟩,
    ⟨(some 51), .move (.tmp 50), none⟩,
    ⟨(some 52), .move (.tmp 13), (some (some 51, false))⟩,
    ⟨(some 53), .move (.tmp 9), (some (some 51, false))⟩,
    ⟨(some 54), .binOp .neq 4 (.tmp 52) (.tmp 53) 4, (some (some 51, false))⟩,
    ⟨(some 55), .pick (.tmp 51) (.const (.bool true)) (.tmp 54), none⟩] [0, 1, 2, 8, 9, 10, 11, 12, 13, 55])
  (.cond (.tmp 55) (.seq (.reg [⟨(some 6), .assign (.const (.bool false)), none⟩] [6])
  .ret)
  .skip))
  (.seq (.seq (.reg [⟨(some 56), .move (.tmp 10), none⟩,
    ⟨(some 57), .move (.tmp 0), none⟩,
    ⟨(some 58), .call ⟨.value (.func 12), #[(.tmp 57)], #[22]⟩, none⟩,
    ⟨(some 59), .call ⟨.value (.func 14), #[(.tmp 56), (.tmp 58)], #[25, 25]⟩, none⟩,
    ⟨(some 60), .unOp .not 4 (.tmp 59), none⟩] [0, 1, 2, 8, 9, 10, 11, 12, 13, 60])
  (.cond (.tmp 60) (.seq (.reg [⟨(some 6), .assign (.const (.bool false)), none⟩] [6])
  .ret)
  .skip))
  (.seq (.seq (.reg [⟨(some 61), .move (.tmp 11), none⟩,
    ⟨(some 62), .move (.tmp 1), none⟩,
    ⟨(some 63), .call ⟨.value (.func 26), #[(.tmp 62)], #[32]⟩, none⟩,
    ⟨(some 64), .call ⟨.value (.func 19), #[(.tmp 61), (.tmp 63)], #[32, 32]⟩, none⟩,
    ⟨(some 65), .unOp .not 4 (.tmp 64), none⟩] [0, 1, 2, 8, 9, 10, 11, 12, 13, 65])
  (.cond (.tmp 65) (.seq (.reg [⟨(some 6), .assign (.const (.bool false)), none⟩] [6])
  .ret)
  .skip))
  (.seq (.reg [⟨(some 14), .assign (.const (.int .i64 1)), none⟩] [0, 1, 2, 8, 9, 10, 11, 12, 13, 14])
  (.seq (.reg [⟨(some 66), .move (.tmp 10), none⟩,
    ⟨(some 67), .move (.tmp 14), none⟩,
    ⟨(some 68), .call ⟨.value (.func 20), #[(.tmp 66), (.tmp 67)], #[25, 3]⟩, none⟩,
    ⟨(some 14), .assign (.tmp 68), none⟩] [0, 1, 2, 8, 9, 11, 12, 13, 14])
  (.seq (.reg [⟨(some 69), .move (.tmp 11), none⟩,
    ⟨(some 70), .move (.tmp 14), none⟩,
    ⟨(some 71), .call ⟨.value (.func 21), #[(.tmp 69), (.tmp 70)], #[32, 3]⟩, none⟩,
    ⟨(some 14), .assign (.tmp 71), none⟩] [0, 1, 2, 8, 9, 12, 13, 14])
  (.seq (.seq (.reg [⟨(some 72), .move (.tmp 14), none⟩,
    ⟨(some 73), .binOp .lss 3 (.tmp 72) (.const (.int .i64 0)) 3, none⟩,
    ⟨(some 74), .move (.tmp 73), none⟩,
    ⟨(some 75), .move (.tmp 12), (some (some 74, false))⟩,
    ⟨(some 76), .move (.tmp 8), (some (some 74, false))⟩,
    ⟨(some 77), .call ⟨.value (.func 19), #[(.tmp 75), (.tmp 76)], #[32, 32]⟩, (some (some 74, false))⟩,
    ⟨(some 78), .unOp .not 4 (.tmp 77), (some (some 74, false))⟩,
    ⟨(some 79), .pick (.tmp 74) (.const (.bool true)) (.tmp 78), none⟩,
    ⟨(some 80), .move (.tmp 79), none⟩,
    ⟨(some 81), .move (.tmp 13), (some (some 80, false))⟩,
    ⟨(some 82), .move (.tmp 9), (some (some 80, false))⟩,
    ⟨(some 83), .binOp .neq 4 (.tmp 81) (.tmp 82) 4, (some (some 80, false))⟩,
    ⟨(some 84), .pick (.tmp 80) (.const (.bool true)) (.tmp 83), none⟩] [0, 1, 2, 8, 9, 12, 84])
  (.cond (.tmp 84) (.seq (.reg [⟨(some 6), .assign (.const (.bool false)), none⟩] [6])
  .ret)
  .skip))
  (.seq (.reg [⟨(some 15), .assign (.const (.int .i64 1)), none⟩] [0, 1, 2, 8, 9, 12, 15])
  (.seq (.reg [⟨(some 85), .move (.tmp 12), none⟩,
    ⟨(some 86), .move (.tmp 15), none⟩,
    ⟨(some 87), .call ⟨.value (.func 21), #[(.tmp 85), (.tmp 86)], #[32, 3]⟩, none⟩,
    ⟨(some 15), .assign (.tmp 87), none⟩] [0, 1, 2, 8, 9, 12, 15])
  (.seq (.reg [⟨(some 16), .assign (.const (.int .i64 1)), none⟩] [0, 1, 2, 8, 9, 12, 15, 16])
  (.seq (.reg [⟨(some 88), .move (.tmp 12), none⟩,
    ⟨(some 89), .move (.tmp 16), none⟩,
    ⟨(some 90), .call ⟨.value (.func 22), #[(.tmp 88), (.tmp 89)], #[32, 3]⟩, none⟩,
    ⟨(some 16), .assign (.tmp 90), none⟩] [0, 1, 2, 8, 9, 12, 15, 16])
  (.seq (.seq (.reg [⟨(some 91), .move (.tmp 16), none⟩,
    ⟨(some 92), .binOp .lss 3 (.tmp 91) (.const (.int .i64 0)) 3, none⟩] [0, 1, 2, 8, 9, 12, 15, 16, 92])
  (.cond (.tmp 92) (.seq (.reg [⟨(some 6), .assign (.const (.bool false)), none⟩] [6])
  .ret)
  .skip))
  (.seq (.seq (.reg [⟨(some 93), .move (.tmp 16), none⟩,
    ⟨(some 94), .move (.tmp 15), none⟩,
    ⟨(some 95), .binOp .neq 3 (.tmp 93) (.tmp 94) 3, none⟩] [0, 1, 2, 8, 9, 12, 15, 95])
  (.cond (.tmp 95) (.seq (.reg [⟨(some 6), .assign (.const (.bool false)), none⟩] [6])
  .ret)
  .skip))
  (.seq (.reg [⟨(some 97), .move (.tmp 0), none⟩,
    ⟨(some 98), .call ⟨.value (.func 12), #[(.tmp 97)], #[22]⟩, none⟩,
    ⟨(some 99), .move (.tmp 1), none⟩,
    ⟨(some 100), .call ⟨.value (.func 26), #[(.tmp 99)], #[32]⟩, none⟩,
    ⟨(some 101), .move (.tmp 2), none⟩,
    ⟨(some 102), .call ⟨.value (.func 31), #[(.tmp 98), (.tmp 100), (.tmp 101)], #[25, 32, 3]⟩, none⟩,
    ⟨(some 96), .move (.tmp 102), none⟩,
    ⟨(some 103), .extract (.tmp 96) 0, none⟩,
    ⟨(some 104), .extract (.tmp 96) 1, none⟩,
    ⟨(some 17), .assign (.tmp 103), none⟩,
    ⟨(some 18), .assign (.tmp 104), none⟩] [8, 9, 12, 15, 17, 18])
  (.seq (.seq (.reg [⟨(some 105), .move (.tmp 17), none⟩,
    ⟨(some 106), .move (.tmp 8), none⟩,
    ⟨(some 107), .call ⟨.value (.func 19), #[(.tmp 105), (.tmp 106)], #[32, 32]⟩, none⟩,
    ⟨(some 108), .unOp .not 4 (.tmp 107), none⟩,
    ⟨(some 109), .move (.tmp 108), none⟩,
    ⟨(some 110), .move (.tmp 18), (some (some 109, false))⟩,
    ⟨(some 111), .move (.tmp 9), (some (some 109, false))⟩,
    ⟨(some 112), .binOp .neq 4 (.tmp 110) (.tmp 111) 4, (some (some 109, false))⟩,
    ⟨(some 113), .pick (.tmp 109) (.const (.bool true)) (.tmp 112), none⟩] [12, 15, 113])
  (.cond (.tmp 113) (.seq (.reg [⟨(some 6), .assign (.const (.bool false)), none⟩] [6])
  .ret)
  .skip))
  (.seq (.reg [⟨(some 16), .assign (.const (.int .i64 1)), none⟩] [12, 15, 16])
  (.seq (.reg [⟨(some 114), .move (.tmp 12), none⟩,
    ⟨(some 115), .move (.tmp 16), none⟩,
    ⟨(some 116), .call ⟨.value (.func 22), #[(.tmp 114), (.tmp 115)], #[32, 3]⟩, none⟩,
    ⟨(some 16), .assign (.tmp 116), none⟩] [15, 16])
  (.seq (.seq (.reg [⟨(some 117), .move (.tmp 16), none⟩,
    ⟨(some 118), .binOp .lss 3 (.tmp 117) (.const (.int .i64 0)) 3, none⟩] [15, 16, 118])
  (.cond (.tmp 118) (.seq (.reg [⟨(some 6), .assign (.const (.bool false)), none⟩] [6])
  .ret)
  .skip))
  (.seq (.seq (.reg [⟨(some 119), .move (.tmp 16), none⟩,
    ⟨(some 120), .move (.tmp 15), none⟩,
    ⟨(some 121), .binOp .neq 3 (.tmp 119) (.tmp 120) 3, none⟩] [121])
  (.cond (.tmp 121) (.seq (.reg [⟨(some 6), .assign (.const (.bool false)), none⟩] [6])
  .ret)
  .skip))
  (.seq (.reg [⟨(some 6), .assign (.const (.bool true)), none⟩] [6])
  .ret)))))))))))))))))))))))))))))
theorem laws_FnExactStatesFor_k : fnOk Try.prog 9 = some (laws_FnExactStatesFor_c.strip, 122, [.tmp 6]) := by kernel_rfl
/-- loop.example/g01062/laws.szFlawS: number 10, params [0, 1] -/
def laws_szFlawS_c : ACode := (.seq (.reg [⟨(some 4), .assign (.const (.int .i64 0)), none⟩] [0, 1])
  (.seq (.reg [⟨(some 5), .move (.tmp 1), none⟩,
    ⟨(some 6), .move (.tmp 0), none⟩,
    ⟨(some 7), .call ⟨.builtin .len, #[(.tmp 6)], #[22]⟩, none⟩,
    ⟨(some 8), .binOp .sub 3 (.tmp 5) (.tmp 7) 3, none⟩,
    ⟨(some 1), .assign (.tmp 8), none⟩] [1])
  (.seq (.seq (.reg [⟨(some 9), .move (.tmp 1), none⟩,
    ⟨(some 10), .binOp .lss 3 (.tmp 9) (.const (.int .i64 0)) 3, none⟩] [1, 10])
  (.cond (.tmp 10) (.seq (.reg [⟨(some 4), .assign (.const (.int .i64 (-1))), none⟩] [4])
  .ret)
  .skip))
  (.seq (.reg [⟨(some 11), .move (.tmp 1), none⟩,
    ⟨(some 4), .assign (.tmp 11), none⟩] [4])
  .ret))))
theorem laws_szFlawS_k : fnOk Try.prog 10 = some (laws_szFlawS_c.strip, 12, [.tmp 4]) := by kernel_rfl
/-- loop.example/g01062/spec.AreFlaws: number 11, params [0] -/
def spec_AreFlaws_c : ACode := (.seq (.reg [⟨(some 2), .assign (.const (.bool false)), none⟩] [0])
  (.seq (.reg [⟨(some 3), .move (.tmp 0), none⟩,
    ⟨(some 4), .call ⟨.value (.func 32), #[(.tmp 3)], #[25]⟩, none⟩,
    ⟨(some 2), .assign (.tmp 4), none⟩] [2])
  .ret))
theorem spec_AreFlaws_k : fnOk Try.prog 11 = some (spec_AreFlaws_c.strip, 5, [.tmp 2]) := by kernel_rfl
/-- head: [0, 3, 4] -/
def laws_toFlawS_l0 : ACode := (.seq (.seq (.reg [⟨(some 8), .move (.tmp 4), none⟩,
    ⟨(some 9), .move (.tmp 0), none⟩,
    ⟨(some 10), .call ⟨.builtin .len, #[(.tmp 9)], #[22]⟩, none⟩,
    ⟨(some 11), .binOp .lss 3 (.tmp 8) (.tmp 10) 3, none⟩] [0, 3, 4, 11])
  (.cond (.tmp 11) .skip
  (.exit 0)))
  (.seq (.block 1 (.reg [⟨(some 14), .move (.tmp 3), none⟩,
    ⟨(some 15), .move (.tmp 4), none⟩,
    ⟨(some 16), .move (.tmp 0), none⟩,
    ⟨(some 17), .move (.tmp 4), none⟩,
    ⟨(some 18), .indexAddr 22 (.tmp 16) (.tmp 17), none⟩,
    ⟨(some 19), .load 49 (.tmp 18), none⟩,
    ⟨(some 20), .call ⟨.value (.func 33), #[(.tmp 19)], #[49]⟩, none⟩,
    ⟨(some 21), .indexAddr 25 (.tmp 14) (.tmp 15), none⟩,
    ⟨none, .store 47 (.tmp 21) (.tmp 20), none⟩] [0, 3, 4]))
  (.reg [⟨(some 12), .move (.tmp 4), none⟩,
    ⟨(some 13), .binOp .add 3 (.tmp 12) (.const (.int .i64 1)) 3, none⟩,
    ⟨(some 4), .assign (.tmp 13), none⟩] [0, 3, 4])))
/-- loop.example/g01062/laws.toFlawS: number 12, params [0] -/
def laws_toFlawS_c : ACode := (.seq (.reg [⟨(some 2), .assign (.const (.slice none 0 0)), none⟩] [0])
  (.seq (.reg [⟨(some 5), .move (.tmp 0), none⟩,
    ⟨(some 6), .call ⟨.builtin .len, #[(.tmp 5)], #[22]⟩, none⟩,
    ⟨(some 7), .makeSlice 25 (.tmp 6) (.tmp 6), none⟩,
    ⟨(some 3), .assign (.tmp 7), none⟩] [0, 3])
  (.seq (.seq (.reg [⟨(some 4), .assign (.const (.int .i64 0)), none⟩] [0, 3, 4])
  (.block 0 (.loop laws_toFlawS_l0)))
  (.seq (.reg [⟨(some 22), .move (.tmp 3), none⟩,
    ⟨(some 2), .assign (.tmp 22), none⟩] [2])
  .ret))))
theorem laws_toFlawS_k : fnOk Try.prog 12 = some (laws_toFlawS_c.strip, 23, [.tmp 2]) := by kernel_rfl
/-- loop.example/g01062/impl.AreFlaws: number 13, params [0] -/
def impl_AreFlaws_c : ACode := (.seq (.reg [⟨(some 2), .assign (.const (.bool false)), none⟩] [0])
  (.seq (.reg [⟨(some 3), .move (.tmp 0), none⟩,
    ⟨(some 4), .call ⟨.value (.func 34), #[(.tmp 3)], #[25]⟩, none⟩,
    ⟨(some 2), .assign (.tmp 4), none⟩] [2])
  .ret))
theorem impl_AreFlaws_k : fnOk Try.prog 13 = some (impl_AreFlaws_c.strip, 5, [.tmp 2]) := by kernel_rfl
/-- head: [0, 1, 5] -/
def laws_eqFlawS_l0 : ACode := (.seq (.seq (.reg [⟨(some 11), .move (.tmp 5), none⟩,
    ⟨(some 12), .move (.tmp 0), none⟩,
    ⟨(some 13), .call ⟨.builtin .len, #[(.tmp 12)], #[25]⟩, none⟩,
    ⟨(some 14), .binOp .lss 3 (.tmp 11) (.tmp 13) 3, none⟩] [0, 1, 5, 14])
  (.cond (.tmp 14) .skip
  (.exit 0)))
  (.seq (.block 1 (.seq (.regQ [⟨(some 17), .move (.tmp 0), none⟩,
    ⟨(some 18), .move (.tmp 5), none⟩,
    ⟨(some 19), .indexAddr 25 (.tmp 17) (.tmp 18), none⟩,
    ⟨(some 20), .load 47 (.tmp 19), none⟩,
    ⟨(some 21), .move (.tmp 1), none⟩,
    ⟨(some 22), .move (.tmp 5), none⟩,
    ⟨(some 23), .indexAddr 25 (.tmp 21) (.tmp 22), none⟩,
    ⟨(some 24), .load 47 (.tmp 23), none⟩,
    ⟨(some 25), .call ⟨.value (.func 35), #[(.tmp 20), (.tmp 24)], #[47, 47]⟩, none⟩,
    ⟨(some 26), .unOp .not 4 (.tmp 25), none⟩] [0, 1, 5, 26])
  (.cond (.tmp 26) (.seq (.reg [⟨(some 4), .assign (.const (.bool false)), none⟩] [4])
  .ret)
  .skip)))
  (.reg [⟨(some 15), .move (.tmp 5), none⟩,
    ⟨(some 16), .binOp .add 3 (.tmp 15) (.const (.int .i64 1)) 3, none⟩,
    ⟨(some 5), .assign (.tmp 16), none⟩] [0, 1, 5])))
/-- loop.example/g01062/laws.eqFlawS: number 14, params [0, 1] -/
def laws_eqFlawS_c : ACode := (.seq (.reg [⟨(some 4), .assign (.const (.bool false)), none⟩] [0, 1])
  (.seq (.seq (.reg [⟨(some 6), .move (.tmp 0), none⟩,
    ⟨(some 7), .call ⟨.builtin .len, #[(.tmp 6)], #[25]⟩, none⟩,
    ⟨(some 8), .move (.tmp 1), none⟩,
    ⟨(some 9), .call ⟨.builtin .len, #[(.tmp 8)], #[25]⟩, none⟩,
    ⟨(some 10), .binOp .neq 3 (.tmp 7) (.tmp 9) 3, none⟩] [0, 1, 10])
  (.cond (.tmp 10) (.seq (.reg [⟨(some 4), .assign (.const (.bool false)), none⟩] [4])
  .ret)
  .skip))
  (.seq (.seq (.reg [⟨(some 5), .assign (.const (.int .i64 0)), none⟩] [0, 1, 5])
  (.block 0 (.loop laws_eqFlawS_l0)))
  (.seq (.reg [⟨(some 4), .assign (.const (.bool true)), none⟩] [4])
  .ret))))
theorem laws_eqFlawS_k : fnOk Try.prog 14 = some (laws_eqFlawS_c.strip, 27, [.tmp 4]) := by kernel_rfl
/-- head: [0, 1, 6, 7] -/
def spec_CleanPositions_l0 : ACode := (.seq (.seq (.reg [⟨(some 16), .move (.tmp 7), none⟩,
    ⟨(some 17), .binOp .lss 3 (.tmp 16) (.const (.int .i64 100)) 3, none⟩] [0, 1, 6, 7, 17])
  (.cond (.tmp 17) .skip
  (.exit 0)))
  (.seq (.block 1 (.seq (.reg [⟨(some 20), .move (.tmp 0), none⟩,
    ⟨(some 21), .move (.tmp 7), none⟩,
    ⟨(some 22), .move (.tmp 1), none⟩,
    ⟨(some 23), .call ⟨.value (.func 37), #[(.tmp 20), (.tmp 21), (.tmp 22)], #[25, 3, 3]⟩, none⟩,
    ⟨(some 24), .call ⟨.builtin .len, #[(.tmp 23)], #[32]⟩, none⟩,
    ⟨(some 25), .binOp .eql 3 (.tmp 24) (.const (.int .i64 0)) 3, none⟩] [0, 1, 6, 7, 25])
  (.cond (.tmp 25) (.reg [⟨(some 26), .move (.tmp 6), none⟩,
    ⟨(some 27), .binOp .add 3 (.tmp 26) (.const (.int .i64 1)) 3, none⟩,
    ⟨(some 6), .assign (.tmp 27), none⟩] [0, 1, 6, 7])
  .skip)))
  (.reg [⟨(some 18), .move (.tmp 7), none⟩,
    ⟨(some 19), .binOp .add 3 (.tmp 18) (.const (.int .i64 1)) 3, none⟩,
    ⟨(some 7), .assign (.tmp 19), none⟩] [0, 1, 6, 7])))
/-- loop.example/g01062/spec.CleanPositions: number 15, params [0, 1] -/
def spec_CleanPositions_c : ACode := (.seq (.reg [⟨(some 4), .assign (.const (.int .i64 0)), none⟩,
    ⟨(some 5), .assign (.const (.bool false)), none⟩] [0, 1])
  (.seq (.seq (.reg [⟨(some 8), .move (.tmp 0), none⟩,
    ⟨(some 9), .call ⟨.value (.func 32), #[(.tmp 8)], #[25]⟩, none⟩,
    ⟨(some 10), .unOp .not 4 (.tmp 9), none⟩,
    ⟨(some 11), .move (.tmp 10), none⟩,
    ⟨(some 12), .move (.tmp 1), (some (some 11, false))⟩,
    ⟨(some 13), .call ⟨.value (.func 36), #[(.tmp 12)], #[3]⟩, (some (some 11, false))⟩,
    ⟨(some 14), .unOp .not 4 (.tmp 13), (some (some 11, false))⟩,
    ⟨(some 15), .pick (.tmp 11) (.const (.bool true)) (.tmp 14), none⟩] [0, 1, 15])
  (.cond (.tmp 15) (.seq (.reg [⟨(some 4), .assign (.const (.int .i64 0)), none⟩,
    ⟨(some 5), .assign (.const (.bool false)), none⟩] [4, 5])
  .ret)
  .skip))
  (.seq (.reg [⟨(some 6), .assign (.const (.int .i64 0)), none⟩] [0, 1, 6])
  (.seq (.seq (.reg [⟨(some 7), .assign (.const (.int .i64 0)), none⟩] [0, 1, 6, 7])
  (.block 0 (.loop spec_CleanPositions_l0)))
  (.seq (.reg [⟨(some 28), .move (.tmp 6), none⟩,
    ⟨(some 4), .assign (.tmp 28), none⟩,
    ⟨(some 5), .assign (.const (.bool true)), none⟩] [4, 5])
  .ret)))))
theorem spec_CleanPositions_k : fnOk Try.prog 15 = some (spec_CleanPositions_c.strip, 29, [.tmp 4, .tmp 5]) := by kernel_rfl
/-- head: [0, 1, 6, 16] -/
def impl_CleanPositions_l0 : ACode := (.seq (.reg [⟨(some 17), .binOp .lss 3 (.tmp 16) (.const (.int .i64 100)) 3, none⟩] [0, 1, 6, 16, 17])
  (.seq (.cond (.tmp 17) .skip
  (.exit 0))
  (.seq (.block 1 (.seq (.reg [⟨(some 18), .move (.tmp 16), none⟩,
    ⟨(some 7), .assign (.tmp 18), none⟩] [0, 1, 6, 7, 16])
  (.seq (.reg [⟨(some 19), .move (.tmp 0), none⟩,
    ⟨(some 20), .move (.tmp 7), none⟩,
    ⟨(some 21), .move (.tmp 1), none⟩,
    ⟨(some 22), .call ⟨.value (.func 39), #[(.tmp 19), (.tmp 20), (.tmp 21)], #[25, 3, 3]⟩, none⟩,
    ⟨(some 23), .call ⟨.builtin .len, #[(.tmp 22)], #[32]⟩, none⟩,
    ⟨(some 24), .binOp .eql 3 (.tmp 23) (.const (.int .i64 0)) 3, none⟩] [0, 1, 6, 16, 24])
  (.cond (.tmp 24) (.reg [⟨(some 25), .move (.tmp 6), none⟩,
    ⟨(some 26), .binOp .add 3 (.tmp 25) (.const (.int .i64 1)) 3, none⟩,
    ⟨(some 6), .assign (.tmp 26), none⟩] [0, 1, 6, 16])
  .skip))))
  (.reg [⟨(some 27), .binOp .add 3 (.tmp 16) (.const (.int .i64 1)) 3, none⟩,
    ⟨(some 16), .move (.tmp 27), none⟩] [0, 1, 6, 16]))))
/-- loop.example/g01062/impl.CleanPositions: number 16, params [0, 1] -/
def impl_CleanPositions_c : ACode := (.seq (.reg [⟨(some 4), .assign (.const (.int .i64 0)), none⟩,
    ⟨(some 5), .assign (.const (.bool false)), none⟩] [0, 1])
  (.seq (.seq (.reg [⟨(some 8), .move (.tmp 0), none⟩,
    ⟨(some 9), .call ⟨.value (.func 34), #[(.tmp 8)], #[25]⟩, none⟩,
    ⟨(some 10), .unOp .not 4 (.tmp 9), none⟩,
    ⟨(some 11), .move (.tmp 10), none⟩,
    ⟨(some 12), .move (.tmp 1), (some (some 11, false))⟩,
    ⟨(some 13), .call ⟨.value (.func 38), #[(.tmp 12)], #[3]⟩, (some (some 11, false))⟩,
    ⟨(some 14), .unOp .not 4 (.tmp 13), (some (some 11, false))⟩,
    ⟨(some 15), .pick (.tmp 11) (.const (.bool true)) (.tmp 14), none⟩] [0, 1, 15])
  (.cond (.tmp 15) (.seq (.reg [⟨(some 4), .assign (.const (.int .i64 0)), none⟩,
    ⟨(some 5), .assign (.const (.bool false)), none⟩] [4, 5])
  .ret)
  .skip))
  (.seq (.reg [⟨(some 6), .assign (.const (.int .i64 0)), none⟩] [0, 1, 6])
  (.seq (.seq (.reg [⟨(some 16), .move (.const (.int .i64 0)), none⟩] [0, 1, 6, 16])
  (.block 0 (.loop impl_CleanPositions_l0)))
  (.seq (.reg [⟨(some 28), .move (.tmp 6), none⟩,
    ⟨(some 4), .assign (.tmp 28), none⟩,
    ⟨(some 5), .assign (.const (.bool true)), none⟩] [4, 5])
  .ret)))))
theorem impl_CleanPositions_k : fnOk Try.prog 16 = some (impl_CleanPositions_c.strip, 29, [.tmp 4, .tmp 5]) := by kernel_rfl
/-- head: [0, 1, 6, 7] -/
def spec_EarlyFlaws_l0 : ACode := (.seq (.seq (.reg [⟨(some 18), .move (.tmp 7), none⟩,
    ⟨(some 19), .move (.tmp 0), none⟩,
    ⟨(some 20), .call ⟨.builtin .len, #[(.tmp 19)], #[25]⟩, none⟩,
    ⟨(some 21), .binOp .lss 3 (.tmp 18) (.tmp 20) 3, none⟩] [0, 1, 6, 7, 21])
  (.cond (.tmp 21) .skip
  (.exit 0)))
  (.seq (.block 1 (.seq (.reg [⟨(some 24), .move (.tmp 0), none⟩,
    ⟨(some 25), .move (.tmp 7), none⟩,
    ⟨(some 26), .indexAddr 25 (.tmp 24) (.tmp 25), none⟩,
    ⟨(some 27), .fieldAddr 47 (.tmp 26) 3, none⟩,
    ⟨(some 28), .load 3 (.tmp 27), none⟩,
    ⟨(some 29), .move (.tmp 1), none⟩,
    ⟨(some 30), .binOp .leq 3 (.tmp 28) (.tmp 29) 3, none⟩] [0, 1, 6, 7, 30])
  (.cond (.tmp 30) (.reg [⟨(some 31), .move (.tmp 6), none⟩,
    ⟨(some 32), .move (.tmp 7), none⟩,
    ⟨(some 33), .buildSlice 32 1 #[(0, (.tmp 32))], none⟩,
    ⟨(some 34), .call ⟨.builtin .append, #[(.tmp 31), (.tmp 33)], #[32, 32]⟩, none⟩,
    ⟨(some 6), .assign (.tmp 34), none⟩] [0, 1, 6, 7])
  .skip)))
  (.reg [⟨(some 22), .move (.tmp 7), none⟩,
    ⟨(some 23), .binOp .add 3 (.tmp 22) (.const (.int .i64 1)) 3, none⟩,
    ⟨(some 7), .assign (.tmp 23), none⟩] [0, 1, 6, 7])))
/-- loop.example/g01062/spec.EarlyFlaws: number 17, params [0, 1] -/
def spec_EarlyFlaws_c : ACode := (.seq (.reg [⟨(some 4), .assign (.const (.slice none 0 0)), none⟩,
    ⟨(some 5), .assign (.const (.bool false)), none⟩] [0, 1])
  (.seq (.reg [⟨(some 8), .buildSlice 32 0 #[], none⟩,
    ⟨(some 6), .assign (.tmp 8), none⟩] [0, 1, 6])
  (.seq (.seq (.reg [⟨(some 9), .move (.tmp 0), none⟩,
    ⟨(some 10), .call ⟨.value (.func 32), #[(.tmp 9)], #[25]⟩, none⟩,
    ⟨(some 11), .unOp .not 4 (.tmp 10), none⟩,
    ⟨(some 12), .move (.tmp 11), none⟩,
    ⟨(some 13), .move (.tmp 1), (some (some 12, false))⟩,
    ⟨(some 14), .call ⟨.value (.func 36), #[(.tmp 13)], #[3]⟩, (some (some 12, false))⟩,
    ⟨(some 15), .unOp .not 4 (.tmp 14), (some (some 12, false))⟩,
    ⟨(some 16), .pick (.tmp 12) (.const (.bool true)) (.tmp 15), none⟩] [0, 1, 6, 16])
  (.cond (.tmp 16) (.seq (.reg [⟨(some 17), .move (.tmp 6), none⟩,
    ⟨(some 4), .assign (.tmp 17), none⟩,
    ⟨(some 5), .assign (.const (.bool false)), none⟩] [4, 5])
  .ret)
  .skip))
  (.seq (.seq (.reg [⟨(some 7), .assign (.const (.int .i64 0)), none⟩] [0, 1, 6, 7])
  (.block 0 (.loop spec_EarlyFlaws_l0)))
  (.seq (.reg [⟨(some 35), .move (.tmp 6), none⟩,
    ⟨(some 4), .assign (.tmp 35), none⟩,
    ⟨(some 5), .assign (.const (.bool true)), none⟩] [4, 5])
  .ret)))))
theorem spec_EarlyFlaws_k : fnOk Try.prog 17 = some (spec_EarlyFlaws_c.strip, 36, [.tmp 4, .tmp 5]) := by kernel_rfl
/-- head: [1, 6, 17, 18, 19] -/
def impl_EarlyFlaws_l0 : ACode := (.seq (.reg [⟨(some 20), .binOp .lss 3 (.tmp 19) (.tmp 18) 3, none⟩] [1, 6, 17, 18, 19, 20])
  (.seq (.cond (.tmp 20) .skip
  (.exit 0))
  (.seq (.block 1 (.seq (.reg [⟨(some 21), .move (.tmp 19), none⟩,
    ⟨(some 22), .indexAddr 25 (.tmp 17) (.tmp 19), none⟩,
    ⟨(some 23), .load 47 (.tmp 22), none⟩,
    ⟨(some 8), .alloc 47, none⟩,
    ⟨(some 7), .assign (.tmp 21), none⟩,
    ⟨none, .store 47 (.tmp 8) (.tmp 23), none⟩] [1, 6, 7, 8, 17, 18, 19])
  (.seq (.reg [⟨(some 24), .fieldAddr 47 (.tmp 8) 3, none⟩,
    ⟨(some 25), .load 3 (.tmp 24), none⟩,
    ⟨(some 26), .move (.tmp 1), none⟩,
    ⟨(some 27), .binOp .leq 3 (.tmp 25) (.tmp 26) 3, none⟩] [1, 6, 7, 17, 18, 19, 27])
  (.cond (.tmp 27) (.reg [⟨(some 28), .move (.tmp 6), none⟩,
    ⟨(some 29), .move (.tmp 7), none⟩,
    ⟨(some 30), .buildSlice 32 1 #[(0, (.tmp 29))], none⟩,
    ⟨(some 31), .call ⟨.builtin .append, #[(.tmp 28), (.tmp 30)], #[32, 32]⟩, none⟩,
    ⟨(some 6), .assign (.tmp 31), none⟩] [1, 6, 17, 18, 19])
  .skip))))
  (.reg [⟨(some 32), .binOp .add 3 (.tmp 19) (.const (.int .i64 1)) 3, none⟩,
    ⟨(some 19), .move (.tmp 32), none⟩] [1, 6, 17, 18, 19]))))
/-- loop.example/g01062/impl.EarlyFlaws: number 18, params [0, 1] -/
def impl_EarlyFlaws_c : ACode := (.seq (.reg [⟨(some 4), .assign (.const (.slice none 0 0)), none⟩,
    ⟨(some 5), .assign (.const (.bool false)), none⟩] [0, 1])
  (.seq (.seq (.reg [⟨(some 9), .move (.tmp 0), none⟩,
    ⟨(some 10), .call ⟨.value (.func 34), #[(.tmp 9)], #[25]⟩, none⟩,
    ⟨(some 11), .unOp .not 4 (.tmp 10), none⟩,
    ⟨(some 12), .move (.tmp 11), none⟩,
    ⟨(some 13), .move (.tmp 1), (some (some 12, false))⟩,
    ⟨(some 14), .call ⟨.value (.func 38), #[(.tmp 13)], #[3]⟩, (some (some 12, false))⟩,
    ⟨(some 15), .unOp .not 4 (.tmp 14), (some (some 12, false))⟩,
    ⟨(some 16), .pick (.tmp 12) (.const (.bool true)) (.tmp 15), none⟩] [0, 1, 16])
  (.cond (.tmp 16) (.seq (.reg [⟨(some 4), .assign (.const (.slice none 0 0)), none⟩,
    ⟨(some 5), .assign (.const (.bool false)), none⟩] [4, 5])
  .ret)
  .skip))
  (.seq (.reg [⟨(some 6), .assign (.const (.slice none 0 0)), none⟩] [0, 1, 6])
  (.seq (.seq (.reg [⟨(some 17), .move (.tmp 0), none⟩,
    ⟨(some 18), .call ⟨.builtin .len, #[(.tmp 17)], #[25]⟩, none⟩,
    ⟨(some 19), .move (.const (.int .i64 0)), none⟩] [1, 6, 17, 18, 19])
  (.block 0 (.loop impl_EarlyFlaws_l0)))
  (.seq (.reg [⟨(some 33), .move (.tmp 6), none⟩,
    ⟨(some 4), .assign (.tmp 33), none⟩,
    ⟨(some 5), .assign (.const (.bool true)), none⟩] [4, 5])
  .ret)))))
theorem impl_EarlyFlaws_k : fnOk Try.prog 18 = some (impl_EarlyFlaws_c.strip, 34, [.tmp 4, .tmp 5]) := by kernel_rfl
/-- head: [0, 1, 5] -/
def laws_eqIntS_l0 : ACode := (.seq (.seq (.reg [⟨(some 11), .move (.tmp 5), none⟩,
    ⟨(some 12), .move (.tmp 0), none⟩,
    ⟨(some 13), .call ⟨.builtin .len, #[(.tmp 12)], #[32]⟩, none⟩,
    ⟨(some 14), .binOp .lss 3 (.tmp 11) (.tmp 13) 3, none⟩] [0, 1, 5, 14])
  (.cond (.tmp 14) .skip
  (.exit 0)))
  (.seq (.block 1 (.seq (.regQ [⟨(some 17), .move (.tmp 0), none⟩,
    ⟨(some 18), .move (.tmp 5), none⟩,
    ⟨(some 19), .indexAddr 32 (.tmp 17) (.tmp 18), none⟩,
    ⟨(some 20), .load 3 (.tmp 19), none⟩,
    ⟨(some 21), .move (.tmp 1), none⟩,
    ⟨(some 22), .move (.tmp 5), none⟩,
    ⟨(some 23), .indexAddr 32 (.tmp 21) (.tmp 22), none⟩,
    ⟨(some 24), .load 3 (.tmp 23), none⟩,
    ⟨(some 25), .binOp .neq 3 (.tmp 20) (.tmp 24) 3, none⟩] [0, 1, 5, 25])
  (.cond (.tmp 25) (.seq (.reg [⟨(some 4), .assign (.const (.bool false)), none⟩] [4])
  .ret)
  .skip)))
  (.reg [⟨(some 15), .move (.tmp 5), none⟩,
    ⟨(some 16), .binOp .add 3 (.tmp 15) (.const (.int .i64 1)) 3, none⟩,
    ⟨(some 5), .assign (.tmp 16), none⟩] [0, 1, 5])))
/-- loop.example/g01062/laws.eqIntS: number 19, params [0, 1] -/
def laws_eqIntS_c : ACode := (.seq (.reg [⟨(some 4), .assign (.const (.bool false)), none⟩] [0, 1])
  (.seq (.seq (.reg [⟨(some 6), .move (.tmp 0), none⟩,
    ⟨(some 7), .call ⟨.builtin .len, #[(.tmp 6)], #[32]⟩, none⟩,
    ⟨(some 8), .move (.tmp 1), none⟩,
    ⟨(some 9), .call ⟨.builtin .len, #[(.tmp 8)], #[32]⟩, none⟩,
    ⟨(some 10), .binOp .neq 3 (.tmp 7) (.tmp 9) 3, none⟩] [0, 1, 10])
  (.cond (.tmp 10) (.seq (.reg [⟨(some 4), .assign (.const (.bool false)), none⟩] [4])
  .ret)
  .skip))
  (.seq (.seq (.reg [⟨(some 5), .assign (.const (.int .i64 0)), none⟩] [0, 1, 5])
  (.block 0 (.loop laws_eqIntS_l0)))
  (.seq (.reg [⟨(some 4), .assign (.const (.bool true)), none⟩] [4])
  .ret))))
theorem laws_eqIntS_k : fnOk Try.prog 19 = some (laws_eqIntS_c.strip, 26, [.tmp 4]) := by kernel_rfl
/-- head: [0, 1, 5] -/
def laws_markFlawS_l0 : ACode := (.seq (.seq (.reg [⟨(some 6), .move (.tmp 5), none⟩,
    ⟨(some 7), .move (.tmp 0), none⟩,
    ⟨(some 8), .call ⟨.builtin .len, #[(.tmp 7)], #[25]⟩, none⟩,
    ⟨(some 9), .binOp .lss 3 (.tmp 6) (.tmp 8) 3, none⟩] [0, 1, 5, 9])
  (.cond (.tmp 9) .skip
  (.exit 0)))
  (.seq (.block 1 (.seq (.reg [⟨(some 12), .move (.tmp 0), none⟩,
    ⟨(some 13), .move (.tmp 5), none⟩,
    ⟨(some 14), .move (.tmp 1), none⟩,
    ⟨(some 15), .indexAddr 25 (.tmp 12) (.tmp 13), none⟩,
    ⟨(some 16), .fieldAddr 47 (.tmp 15) 0, none⟩,
    ⟨none, .store 3 (.tmp 16) (.tmp 14), none⟩] [0, 1, 5])
  (.seq (.reg [⟨(some 17), .move (.tmp 1), none⟩,
    ⟨(some 18), .binOp .add 3 (.tmp 17) (.const (.int .i64 1)) 3, none⟩,
    ⟨(some 1), .assign (.tmp 18), none⟩] [0, 1, 5])
  (.seq (.reg [⟨(some 19), .move (.tmp 0), none⟩,
    ⟨(some 20), .move (.tmp 5), none⟩,
    ⟨(some 21), .move (.tmp 1), none⟩,
    ⟨(some 22), .indexAddr 25 (.tmp 19) (.tmp 20), none⟩,
    ⟨(some 23), .fieldAddr 47 (.tmp 22) 1, none⟩,
    ⟨none, .store 3 (.tmp 23) (.tmp 21), none⟩] [0, 1, 5])
  (.seq (.reg [⟨(some 24), .move (.tmp 1), none⟩,
    ⟨(some 25), .binOp .add 3 (.tmp 24) (.const (.int .i64 1)) 3, none⟩,
    ⟨(some 1), .assign (.tmp 25), none⟩] [0, 1, 5])
  (.seq (.reg [⟨(some 26), .move (.tmp 0), none⟩,
    ⟨(some 27), .move (.tmp 5), none⟩,
    ⟨(some 28), .move (.tmp 1), none⟩,
    ⟨(some 29), .indexAddr 25 (.tmp 26) (.tmp 27), none⟩,
    ⟨(some 30), .fieldAddr 47 (.tmp 29) 2, none⟩,
    ⟨none, .store 3 (.tmp 30) (.tmp 28), none⟩] [0, 1, 5])
  (.seq (.reg [⟨(some 31), .move (.tmp 1), none⟩,
    ⟨(some 32), .binOp .add 3 (.tmp 31) (.const (.int .i64 1)) 3, none⟩,
    ⟨(some 1), .assign (.tmp 32), none⟩] [0, 1, 5])
  (.seq (.reg [⟨(some 33), .move (.tmp 0), none⟩,
    ⟨(some 34), .move (.tmp 5), none⟩,
    ⟨(some 35), .move (.tmp 1), none⟩,
    ⟨(some 36), .indexAddr 25 (.tmp 33) (.tmp 34), none⟩,
    ⟨(some 37), .fieldAddr 47 (.tmp 36) 3, none⟩,
    ⟨none, .store 3 (.tmp 37) (.tmp 35), none⟩] [0, 1, 5])
  (.reg [⟨(some 38), .move (.tmp 1), none⟩,
    ⟨(some 39), .binOp .add 3 (.tmp 38) (.const (.int .i64 1)) 3, none⟩,
    ⟨(some 1), .assign (.tmp 39), none⟩] [0, 1, 5])))))))))
  (.reg [⟨(some 10), .move (.tmp 5), none⟩,
    ⟨(some 11), .binOp .add 3 (.tmp 10) (.const (.int .i64 1)) 3, none⟩,
    ⟨(some 5), .assign (.tmp 11), none⟩] [0, 1, 5])))
/-- loop.example/g01062/laws.markFlawS: number 20, params [0, 1] -/
def laws_markFlawS_c : ACode := (.seq (.reg [⟨(some 4), .assign (.const (.int .i64 0)), none⟩] [0, 1])
  (.seq (.seq (.reg [⟨(some 5), .assign (.const (.int .i64 0)), none⟩] [0, 1, 5])
  (.block 0 (.loop laws_markFlawS_l0)))
  (.seq (.reg [⟨(some 40), .move (.tmp 1), none⟩,
    ⟨(some 4), .assign (.tmp 40), none⟩] [4])
  .ret)))
theorem laws_markFlawS_k : fnOk Try.prog 20 = some (laws_markFlawS_c.strip, 41, [.tmp 4]) := by kernel_rfl
/-- head: [0, 1, 5] -/
def laws_markIntS_l0 : ACode := (.seq (.seq (.reg [⟨(some 6), .move (.tmp 5), none⟩,
    ⟨(some 7), .move (.tmp 0), none⟩,
    ⟨(some 8), .call ⟨.builtin .len, #[(.tmp 7)], #[32]⟩, none⟩,
    ⟨(some 9), .binOp .lss 3 (.tmp 6) (.tmp 8) 3, none⟩] [0, 1, 5, 9])
  (.cond (.tmp 9) .skip
  (.exit 0)))
  (.seq (.block 1 (.seq (.reg [⟨(some 12), .move (.tmp 0), none⟩,
    ⟨(some 13), .move (.tmp 5), none⟩,
    ⟨(some 14), .move (.tmp 1), none⟩,
    ⟨(some 15), .indexAddr 32 (.tmp 12) (.tmp 13), none⟩,
    ⟨none, .store 3 (.tmp 15) (.tmp 14), none⟩] [0, 1, 5])
  (.reg [⟨(some 16), .move (.tmp 1), none⟩,
    ⟨(some 17), .binOp .add 3 (.tmp 16) (.const (.int .i64 1)) 3, none⟩,
    ⟨(some 1), .assign (.tmp 17), none⟩] [0, 1, 5])))
  (.reg [⟨(some 10), .move (.tmp 5), none⟩,
    ⟨(some 11), .binOp .add 3 (.tmp 10) (.const (.int .i64 1)) 3, none⟩,
    ⟨(some 5), .assign (.tmp 11), none⟩] [0, 1, 5])))
/-- loop.example/g01062/laws.markIntS: number 21, params [0, 1] -/
def laws_markIntS_c : ACode := (.seq (.reg [⟨(some 4), .assign (.const (.int .i64 0)), none⟩] [0, 1])
  (.seq (.seq (.reg [⟨(some 5), .assign (.const (.int .i64 0)), none⟩] [0, 1, 5])
  (.block 0 (.loop laws_markIntS_l0)))
  (.seq (.reg [⟨(some 18), .move (.tmp 1), none⟩,
    ⟨(some 4), .assign (.tmp 18), none⟩] [4])
  .ret)))
theorem laws_markIntS_k : fnOk Try.prog 21 = some (laws_markIntS_c.strip, 19, [.tmp 4]) := by kernel_rfl
/-- head: [0, 1, 5] -/
def laws_heldIntS_l0 : ACode := (.seq (.seq (.reg [⟨(some 6), .move (.tmp 5), none⟩,
    ⟨(some 7), .move (.tmp 0), none⟩,
    ⟨(some 8), .call ⟨.builtin .len, #[(.tmp 7)], #[32]⟩, none⟩,
    ⟨(some 9), .binOp .lss 3 (.tmp 6) (.tmp 8) 3, none⟩] [0, 1, 5, 9])
  (.cond (.tmp 9) .skip
  (.exit 0)))
  (.seq (.block 1 (.seq (.seq (.reg [⟨(some 12), .move (.tmp 0), none⟩,
    ⟨(some 13), .move (.tmp 5), none⟩,
    ⟨(some 14), .indexAddr 32 (.tmp 12) (.tmp 13), none⟩,
    ⟨(some 15), .load 3 (.tmp 14), none⟩,
    ⟨(some 16), .move (.tmp 1), none⟩,
    ⟨(some 17), .binOp .neq 3 (.tmp 15) (.tmp 16) 3, none⟩] [0, 1, 5, 17])
  (.cond (.tmp 17) (.seq (.reg [⟨(some 4), .assign (.const (.int .i64 (-1))), none⟩] [4])
  .ret)
  .skip))
  (.reg [⟨(some 18), .move (.tmp 1), none⟩,
    ⟨(some 19), .binOp .add 3 (.tmp 18) (.const (.int .i64 1)) 3, none⟩,
    ⟨(some 1), .assign (.tmp 19), none⟩] [0, 1, 5])))
  (.reg [⟨(some 10), .move (.tmp 5), none⟩,
    ⟨(some 11), .binOp .add 3 (.tmp 10) (.const (.int .i64 1)) 3, none⟩,
    ⟨(some 5), .assign (.tmp 11), none⟩] [0, 1, 5])))
/-- loop.example/g01062/laws.heldIntS: number 22, params [0, 1] -/
def laws_heldIntS_c : ACode := (.seq (.reg [⟨(some 4), .assign (.const (.int .i64 0)), none⟩] [0, 1])
  (.seq (.seq (.reg [⟨(some 5), .assign (.const (.int .i64 0)), none⟩] [0, 1, 5])
  (.block 0 (.loop laws_heldIntS_l0)))
  (.seq (.reg [⟨(some 20), .move (.tmp 1), none⟩,
    ⟨(some 4), .assign (.tmp 20), none⟩] [4])
  .ret)))
theorem laws_heldIntS_k : fnOk Try.prog 22 = some (laws_heldIntS_c.strip, 21, [.tmp 4]) := by kernel_rfl
/-- loop.example/g01062/spec.CodesAt: number 23, params [0, 1, 2] -/
def spec_CodesAt_c : ACode := (.seq (.reg [⟨(some 6), .assign (.const (.slice none 0 0)), none⟩,
    ⟨(some 7), .assign (.const (.bool false)), none⟩] [0, 1, 2])
  (.seq (.seq (.reg [⟨(some 8), .move (.tmp 0), none⟩,
    ⟨(some 9), .call ⟨.value (.func 32), #[(.tmp 8)], #[25]⟩, none⟩,
    ⟨(some 10), .unOp .not 4 (.tmp 9), none⟩,
    ⟨(some 11), .move (.tmp 10), none⟩,
    ⟨(some 12), .move (.tmp 1), (some (some 11, false))⟩,
    ⟨(some 13), .call ⟨.value (.func 40), #[(.tmp 12)], #[3]⟩, (some (some 11, false))⟩,
    ⟨(some 14), .unOp .not 4 (.tmp 13), (some (some 11, false))⟩,
    ⟨(some 15), .pick (.tmp 11) (.const (.bool true)) (.tmp 14), none⟩,
    ⟨(some 16), .move (.tmp 15), none⟩,
    ⟨(some 17), .move (.tmp 2), (some (some 16, false))⟩,
    ⟨(some 18), .call ⟨.value (.func 36), #[(.tmp 17)], #[3]⟩, (some (some 16, false))⟩,
    ⟨(some 19), .unOp .not 4 (.tmp 18), (some (some 16, false))⟩,
    ⟨(some 20), .pick (.tmp 16) (.const (.bool true)) (.tmp 19), none⟩] [0, 1, 2, 20])
  (.cond (.tmp 20) (.seq (.reg [⟨(some 21), .buildSlice 32 0 #[], none⟩,
    ⟨(some 6), .assign (.tmp 21), none⟩,
    ⟨(some 7), .assign (.const (.bool false)), none⟩] [6, 7])
  .ret)
  .skip))
  (.seq (.reg [⟨(some 22), .move (.tmp 0), none⟩,
    ⟨(some 23), .move (.tmp 1), none⟩,
    ⟨(some 24), .move (.tmp 2), none⟩,
    ⟨(some 25), .call ⟨.value (.func 37), #[(.tmp 22), (.tmp 23), (.tmp 24)], #[25, 3, 3]⟩, none⟩,
    ⟨(some 6), .assign (.tmp 25), none⟩,
    ⟨(some 7), .assign (.const (.bool true)), none⟩] [6, 7])
  .ret)))
theorem spec_CodesAt_k : fnOk Try.prog 23 = some (spec_CodesAt_c.strip, 26, [.tmp 6, .tmp 7]) := by kernel_rfl
/-- loop.example/g01062/impl.CodesAt: number 24, params [0, 1, 2] -/
def impl_CodesAt_c : ACode := (.seq (.reg [⟨(some 6), .assign (.const (.slice none 0 0)), none⟩,
    ⟨(some 7), .assign (.const (.bool false)), none⟩] [0, 1, 2])
  (.seq (.seq (.reg [⟨(some 8), .move (.tmp 0), none⟩,
    ⟨(some 9), .call ⟨.value (.func 34), #[(.tmp 8)], #[25]⟩, none⟩,
    ⟨(some 10), .unOp .not 4 (.tmp 9), none⟩,
    ⟨(some 11), .move (.tmp 10), none⟩,
    ⟨(some 12), .move (.tmp 1), (some (some 11, false))⟩,
    ⟨(some 13), .call ⟨.value (.func 41), #[(.tmp 12)], #[3]⟩, (some (some 11, false))⟩,
    ⟨(some 14), .unOp .not 4 (.tmp 13), (some (some 11, false))⟩,
    ⟨(some 15), .pick (.tmp 11) (.const (.bool true)) (.tmp 14), none⟩,
    ⟨(some 16), .move (.tmp 15), none⟩,
    ⟨(some 17), .move (.tmp 2), (some (some 16, false))⟩,
    ⟨(some 18), .call ⟨.value (.func 38), #[(.tmp 17)], #[3]⟩, (some (some 16, false))⟩,
    ⟨(some 19), .unOp .not 4 (.tmp 18), (some (some 16, false))⟩,
    ⟨(some 20), .pick (.tmp 16) (.const (.bool true)) (.tmp 19), none⟩] [0, 1, 2, 20])
  (.cond (.tmp 20) (.seq (.reg [⟨(some 6), .assign (.const (.slice none 0 0)), none⟩,
    ⟨(some 7), .assign (.const (.bool false)), none⟩] [6, 7])
  .ret)
  .skip))
  (.seq (.reg [⟨(some 21), .move (.tmp 0), none⟩,
    ⟨(some 22), .move (.tmp 1), none⟩,
    ⟨(some 23), .move (.tmp 2), none⟩,
    ⟨(some 24), .call ⟨.value (.func 39), #[(.tmp 21), (.tmp 22), (.tmp 23)], #[25, 3, 3]⟩, none⟩,
    ⟨(some 6), .assign (.tmp 24), none⟩,
    ⟨(some 7), .assign (.const (.bool true)), none⟩] [6, 7])
  .ret)))
theorem impl_CodesAt_k : fnOk Try.prog 24 = some (impl_CodesAt_c.strip, 25, [.tmp 6, .tmp 7]) := by kernel_rfl
/-- head: [0, 1, 2, 8, 9] -/
def spec_PositionsFor_l0 : ACode := (.seq (.seq (.reg [⟨(some 25), .move (.tmp 9), none⟩,
    ⟨(some 26), .binOp .lss 3 (.tmp 25) (.const (.int .i64 100)) 3, none⟩] [0, 1, 2, 8, 9, 26])
  (.cond (.tmp 26) .skip
  (.exit 0)))
  (.seq (.block 1 (.seq (.reg [⟨(some 29), .move (.tmp 0), none⟩,
    ⟨(some 30), .move (.tmp 9), none⟩,
    ⟨(some 31), .move (.tmp 2), none⟩,
    ⟨(some 32), .call ⟨.value (.func 37), #[(.tmp 29), (.tmp 30), (.tmp 31)], #[25, 3, 3]⟩, none⟩,
    ⟨(some 33), .move (.tmp 1), none⟩,
    ⟨(some 34), .call ⟨.value (.func 43), #[(.tmp 32), (.tmp 33)], #[32, 32]⟩, none⟩] [0, 1, 2, 8, 9, 34])
  (.cond (.tmp 34) (.reg [⟨(some 35), .move (.tmp 8), none⟩,
    ⟨(some 36), .move (.tmp 9), none⟩,
    ⟨(some 37), .buildSlice 32 1 #[(0, (.tmp 36))], none⟩,
    ⟨(some 38), .call ⟨.builtin .append, #[(.tmp 35), (.tmp 37)], #[32, 32]⟩, none⟩,
    ⟨(some 8), .assign (.tmp 38), none⟩] [0, 1, 2, 8, 9])
  .skip)))
  (.reg [⟨(some 27), .move (.tmp 9), none⟩,
    ⟨(some 28), .binOp .add 3 (.tmp 27) (.const (.int .i64 1)) 3, none⟩,
    ⟨(some 9), .assign (.tmp 28), none⟩] [0, 1, 2, 8, 9])))
/-- loop.example/g01062/spec.PositionsFor: number 25, params [0, 1, 2] -/
def spec_PositionsFor_c : ACode := (.seq (.reg [⟨(some 6), .assign (.const (.slice none 0 0)), none⟩,
    ⟨(some 7), .assign (.const (.bool false)), none⟩] [0, 1, 2])
  (.seq (.reg [⟨(some 10), .buildSlice 32 0 #[], none⟩,
    ⟨(some 8), .assign (.tmp 10), none⟩] [0, 1, 2, 8])
  (.seq (.seq (.reg [⟨(some 11), .move (.tmp 0), none⟩,
    ⟨(some 12), .call ⟨.value (.func 32), #[(.tmp 11)], #[25]⟩, none⟩,
    ⟨(some 13), .unOp .not 4 (.tmp 12), none⟩,
    ⟨(some 14), .move (.tmp 13), none⟩,
    ⟨(some 15), .move (.tmp 1), (some (some 14, false))⟩,
    ⟨(some 16), .call ⟨.value (.func 42), #[(.tmp 15)], #[32]⟩, (some (some 14, false))⟩,
    ⟨(some 17), .unOp .not 4 (.tmp 16), (some (some 14, false))⟩,
    ⟨(some 18), .pick (.tmp 14) (.const (.bool true)) (.tmp 17), none⟩,
    ⟨(some 19), .move (.tmp 18), none⟩,
    ⟨(some 20), .move (.tmp 2), (some (some 19, false))⟩,
    ⟨(some 21), .call ⟨.value (.func 36), #[(.tmp 20)], #[3]⟩, (some (some 19, false))⟩,
    ⟨(some 22), .unOp .not 4 (.tmp 21), (some (some 19, false))⟩,
    ⟨(some 23), .pick (.tmp 19) (.const (.bool true)) (.tmp 22), none⟩] [0, 1, 2, 8, 23])
  (.cond (.tmp 23) (.seq (.reg [⟨(some 24), .move (.tmp 8), none⟩,
    ⟨(some 6), .assign (.tmp 24), none⟩,
    ⟨(some 7), .assign (.const (.bool false)), none⟩] [6, 7])
  .ret)
  .skip))
  (.seq (.seq (.reg [⟨(some 9), .assign (.const (.int .i64 0)), none⟩] [0, 1, 2, 8, 9])
  (.block 0 (.loop spec_PositionsFor_l0)))
  (.seq (.reg [⟨(some 39), .move (.tmp 8), none⟩,
    ⟨(some 6), .assign (.tmp 39), none⟩,
    ⟨(some 7), .assign (.const (.bool true)), none⟩] [6, 7])
  .ret)))))
theorem spec_PositionsFor_k : fnOk Try.prog 25 = some (spec_PositionsFor_c.strip, 40, [.tmp 6, .tmp 7]) := by kernel_rfl
/-- head: [0, 3, 4] -/
def laws_toIntS_l0 : ACode := (.seq (.seq (.reg [⟨(some 8), .move (.tmp 4), none⟩,
    ⟨(some 9), .move (.tmp 0), none⟩,
    ⟨(some 10), .call ⟨.builtin .len, #[(.tmp 9)], #[32]⟩, none⟩,
    ⟨(some 11), .binOp .lss 3 (.tmp 8) (.tmp 10) 3, none⟩] [0, 3, 4, 11])
  (.cond (.tmp 11) .skip
  (.exit 0)))
  (.seq (.block 1 (.reg [⟨(some 14), .move (.tmp 3), none⟩,
    ⟨(some 15), .move (.tmp 4), none⟩,
    ⟨(some 16), .move (.tmp 0), none⟩,
    ⟨(some 17), .move (.tmp 4), none⟩,
    ⟨(some 18), .indexAddr 32 (.tmp 16) (.tmp 17), none⟩,
    ⟨(some 19), .load 3 (.tmp 18), none⟩,
    ⟨(some 20), .indexAddr 32 (.tmp 14) (.tmp 15), none⟩,
    ⟨none, .store 3 (.tmp 20) (.tmp 19), none⟩] [0, 3, 4]))
  (.reg [⟨(some 12), .move (.tmp 4), none⟩,
    ⟨(some 13), .binOp .add 3 (.tmp 12) (.const (.int .i64 1)) 3, none⟩,
    ⟨(some 4), .assign (.tmp 13), none⟩] [0, 3, 4])))
/-- loop.example/g01062/laws.toIntS: number 26, params [0] -/
def laws_toIntS_c : ACode := (.seq (.reg [⟨(some 2), .assign (.const (.slice none 0 0)), none⟩] [0])
  (.seq (.reg [⟨(some 5), .move (.tmp 0), none⟩,
    ⟨(some 6), .call ⟨.builtin .len, #[(.tmp 5)], #[32]⟩, none⟩,
    ⟨(some 7), .makeSlice 32 (.tmp 6) (.tmp 6), none⟩,
    ⟨(some 3), .assign (.tmp 7), none⟩] [0, 3])
  (.seq (.seq (.reg [⟨(some 4), .assign (.const (.int .i64 0)), none⟩] [0, 3, 4])
  (.block 0 (.loop laws_toIntS_l0)))
  (.seq (.reg [⟨(some 21), .move (.tmp 3), none⟩,
    ⟨(some 2), .assign (.tmp 21), none⟩] [2])
  .ret))))
theorem laws_toIntS_k : fnOk Try.prog 26 = some (laws_toIntS_c.strip, 22, [.tmp 2]) := by kernel_rfl
/-- head: [0, 1, 2, 8, 23] -/
def impl_PositionsFor_l0 : ACode := (.seq (.reg [⟨(some 24), .binOp .lss 3 (.tmp 23) (.const (.int .i64 100)) 3, none⟩] [0, 1, 2, 8, 23, 24])
  (.seq (.cond (.tmp 24) .skip
  (.exit 0))
  (.seq (.block 1 (.seq (.reg [⟨(some 25), .move (.tmp 23), none⟩,
    ⟨(some 9), .assign (.tmp 25), none⟩] [0, 1, 2, 8, 9, 23])
  (.seq (.reg [⟨(some 26), .move (.tmp 0), none⟩,
    ⟨(some 27), .move (.tmp 9), none⟩,
    ⟨(some 28), .move (.tmp 2), none⟩,
    ⟨(some 29), .call ⟨.value (.func 39), #[(.tmp 26), (.tmp 27), (.tmp 28)], #[25, 3, 3]⟩, none⟩,
    ⟨(some 30), .move (.tmp 1), none⟩,
    ⟨(some 31), .call ⟨.value (.func 45), #[(.tmp 29), (.tmp 30)], #[32, 32]⟩, none⟩] [0, 1, 2, 8, 9, 23, 31])
  (.cond (.tmp 31) (.reg [⟨(some 32), .move (.tmp 8), none⟩,
    ⟨(some 33), .move (.tmp 9), none⟩,
    ⟨(some 34), .buildSlice 32 1 #[(0, (.tmp 33))], none⟩,
    ⟨(some 35), .call ⟨.builtin .append, #[(.tmp 32), (.tmp 34)], #[32, 32]⟩, none⟩,
    ⟨(some 8), .assign (.tmp 35), none⟩] [0, 1, 2, 8, 23])
  .skip))))
  (.reg [⟨(some 36), .binOp .add 3 (.tmp 23) (.const (.int .i64 1)) 3, none⟩,
    ⟨(some 23), .move (.tmp 36), none⟩] [0, 1, 2, 8, 23]))))
/-- loop.example/g01062/impl.PositionsFor: number 27, params [0, 1, 2] -/
def impl_PositionsFor_c : ACode := (.seq (.reg [⟨(some 6), .assign (.const (.slice none 0 0)), none⟩,
    ⟨(some 7), .assign (.const (.bool false)), none⟩] [0, 1, 2])
  (.seq (.seq (.reg [⟨(some 10), .move (.tmp 0), none⟩,
    ⟨(some 11), .call ⟨.value (.func 34), #[(.tmp 10)], #[25]⟩, none⟩,
    ⟨(some 12), .unOp .not 4 (.tmp 11), none⟩,
    ⟨(some 13), .move (.tmp 12), none⟩,
    ⟨(some 14), .move (.tmp 1), (some (some 13, false))⟩,
    ⟨(some 15), .call ⟨.value (.func 44), #[(.tmp 14)], #[32]⟩, (some (some 13, false))⟩,
    ⟨(some 16), .unOp .not 4 (.tmp 15), (some (some 13, false))⟩,
    ⟨(some 17), .pick (.tmp 13) (.const (.bool true)) (.tmp 16), none⟩,
    ⟨(some 18), .move (.tmp 17), none⟩,
    ⟨(some 19), .move (.tmp 2), (some (some 18, false))⟩,
    ⟨(some 20), .call ⟨.value (.func 38), #[(.tmp 19)], #[3]⟩, (some (some 18, false))⟩,
    ⟨(some 21), .unOp .not 4 (.tmp 20), (some (some 18, false))⟩,
    ⟨(some 22), .pick (.tmp 18) (.const (.bool true)) (.tmp 21), none⟩] [0, 1, 2, 22])
  (.cond (.tmp 22) (.seq (.reg [⟨(some 6), .assign (.const (.slice none 0 0)), none⟩,
    ⟨(some 7), .assign (.const (.bool false)), none⟩] [6, 7])
  .ret)
  .skip))
  (.seq (.reg [⟨(some 8), .assign (.const (.slice none 0 0)), none⟩] [0, 1, 2, 8])
  (.seq (.seq (.reg [⟨(some 23), .move (.const (.int .i64 0)), none⟩] [0, 1, 2, 8, 23])
  (.block 0 (.loop impl_PositionsFor_l0)))
  (.seq (.reg [⟨(some 37), .move (.tmp 8), none⟩,
    ⟨(some 6), .assign (.tmp 37), none⟩,
    ⟨(some 7), .assign (.const (.bool true)), none⟩] [6, 7])
  .ret)))))
theorem impl_PositionsFor_k : fnOk Try.prog 27 = some (impl_PositionsFor_c.strip, 38, [.tmp 6, .tmp 7]) := by kernel_rfl
/-- head: [0, 1, 8, 9, 10, 11, 12] -/
def spec_TellPosition_l0 : ACode := (.seq (.seq (.reg [⟨(some 22), .move (.tmp 12), none⟩,
    ⟨(some 23), .binOp .lss 3 (.tmp 22) (.const (.int .i64 100)) 3, none⟩] [0, 1, 8, 9, 10, 11, 12, 23])
  (.cond (.tmp 23) .skip
  (.exit 0)))
  (.seq (.block 1 (.seq (.reg [⟨(some 26), .move (.tmp 0), none⟩,
    ⟨(some 27), .move (.tmp 1), none⟩,
    ⟨(some 28), .move (.tmp 12), none⟩,
    ⟨(some 29), .call ⟨.value (.func 46), #[(.tmp 26), (.tmp 27), (.tmp 28)], #[25, 32, 3]⟩, none⟩,
    ⟨(some 13), .assign (.tmp 29), none⟩] [0, 1, 8, 9, 10, 11, 12, 13])
  (.seq (.reg [⟨(some 30), .move (.tmp 13), none⟩,
    ⟨(some 31), .call ⟨.builtin .len, #[(.tmp 30)], #[32]⟩, none⟩,
    ⟨(some 32), .binOp .gtr 3 (.tmp 31) (.const (.int .i64 0)) 3, none⟩] [0, 1, 8, 9, 10, 11, 12, 13, 32])
  (.cond (.tmp 32) (.seq (.reg [⟨(some 33), .move (.tmp 11), none⟩,
    ⟨(some 34), .binOp .add 3 (.tmp 33) (.const (.int .i64 1)) 3, none⟩,
    ⟨(some 11), .assign (.tmp 34), none⟩] [0, 1, 11, 12, 13])
  (.seq (.reg [⟨(some 35), .move (.tmp 12), none⟩,
    ⟨(some 8), .assign (.tmp 35), none⟩] [0, 1, 8, 11, 12, 13])
  (.seq (.reg [⟨(some 36), .move (.tmp 13), none⟩,
    ⟨(some 37), .indexAddr 32 (.tmp 36) (.const (.int .i64 0)), none⟩,
    ⟨(some 38), .load 3 (.tmp 37), none⟩,
    ⟨(some 9), .assign (.tmp 38), none⟩] [0, 1, 8, 9, 11, 12, 13])
  (.reg [⟨(some 39), .move (.tmp 13), none⟩,
    ⟨(some 40), .move (.tmp 13), none⟩,
    ⟨(some 41), .call ⟨.builtin .len, #[(.tmp 40)], #[32]⟩, none⟩,
    ⟨(some 42), .binOp .sub 3 (.tmp 41) (.const (.int .i64 1)) 3, none⟩,
    ⟨(some 43), .indexAddr 32 (.tmp 39) (.tmp 42), none⟩,
    ⟨(some 44), .load 3 (.tmp 43), none⟩,
    ⟨(some 10), .assign (.tmp 44), none⟩] [0, 1, 8, 9, 10, 11, 12]))))
  .skip))))
  (.reg [⟨(some 24), .move (.tmp 12), none⟩,
    ⟨(some 25), .binOp .add 3 (.tmp 24) (.const (.int .i64 1)) 3, none⟩,
    ⟨(some 12), .assign (.tmp 25), none⟩] [0, 1, 8, 9, 10, 11, 12])))
/-- loop.example/g01062/spec.TellPosition: number 28, params [0, 1] -/
def spec_TellPosition_c : ACode := (.seq (.reg [⟨(some 4), .assign (.const (.int .i64 0)), none⟩,
    ⟨(some 5), .assign (.const (.int .i64 0)), none⟩,
    ⟨(some 6), .assign (.const (.int .i64 0)), none⟩,
    ⟨(some 7), .assign (.const (.bool false)), none⟩] [0, 1])
  (.seq (.seq (.reg [⟨(some 14), .move (.tmp 0), none⟩,
    ⟨(some 15), .call ⟨.value (.func 32), #[(.tmp 14)], #[25]⟩, none⟩,
    ⟨(some 16), .unOp .not 4 (.tmp 15), none⟩,
    ⟨(some 17), .move (.tmp 16), none⟩,
    ⟨(some 18), .move (.tmp 1), (some (some 17, false))⟩,
    ⟨(some 19), .call ⟨.value (.func 42), #[(.tmp 18)], #[32]⟩, (some (some 17, false))⟩,
    ⟨(some 20), .unOp .not 4 (.tmp 19), (some (some 17, false))⟩,
    ⟨(some 21), .pick (.tmp 17) (.const (.bool true)) (.tmp 20), none⟩] [0, 1, 21])
  (.cond (.tmp 21) (.seq (.reg [⟨(some 4), .assign (.const (.int .i64 0)), none⟩,
    ⟨(some 5), .assign (.const (.int .i64 0)), none⟩,
    ⟨(some 6), .assign (.const (.int .i64 0)), none⟩,
    ⟨(some 7), .assign (.const (.bool false)), none⟩] [4, 5, 6, 7])
  .ret)
  .skip))
  (.seq (.reg [⟨(some 8), .assign (.const (.int .i64 0)), none⟩,
    ⟨(some 9), .assign (.const (.int .i64 0)), none⟩,
    ⟨(some 10), .assign (.const (.int .i64 0)), none⟩,
    ⟨(some 11), .assign (.const (.int .i64 0)), none⟩] [0, 1, 8, 9, 10, 11])
  (.seq (.seq (.reg [⟨(some 12), .assign (.const (.int .i64 0)), none⟩] [0, 1, 8, 9, 10, 11, 12])
  (.block 0 (.loop spec_TellPosition_l0)))
  (.seq (.seq (.reg [⟨(some 45), .move (.tmp 11), none⟩,
    ⟨(some 46), .binOp .neq 3 (.tmp 45) (.const (.int .i64 1)) 3, none⟩] [8, 9, 10, 46])
  (.cond (.tmp 46) (.seq (.reg [⟨(some 4), .assign (.const (.int .i64 0)), none⟩,
    ⟨(some 5), .assign (.const (.int .i64 0)), none⟩,
    ⟨(some 6), .assign (.const (.int .i64 0)), none⟩,
    ⟨(some 7), .assign (.const (.bool false)), none⟩] [4, 5, 6, 7])
  .ret)
  .skip))
  (.seq (.reg [⟨(some 47), .move (.tmp 8), none⟩,
    ⟨(some 48), .move (.tmp 9), none⟩,
    ⟨(some 49), .move (.tmp 10), none⟩,
    ⟨(some 4), .assign (.tmp 47), none⟩,
    ⟨(some 5), .assign (.tmp 48), none⟩,
    ⟨(some 6), .assign (.tmp 49), none⟩,
    ⟨(some 7), .assign (.const (.bool true)), none⟩] [4, 5, 6, 7])
  .ret))))))
theorem spec_TellPosition_k : fnOk Try.prog 28 = some (spec_TellPosition_c.strip, 50, [.tmp 4, .tmp 5, .tmp 6, .tmp 7]) := by kernel_rfl
/-- head: [0, 1, 8, 9, 10, 21] -/
def impl_TellPosition_l0 : ACode := (.seq (.reg [⟨(some 22), .binOp .lss 3 (.tmp 21) (.const (.int .i64 100)) 3, none⟩] [0, 1, 8, 9, 10, 21, 22])
  (.seq (.cond (.tmp 22) .skip
  (.exit 0))
  (.seq (.block 1 (.seq (.reg [⟨(some 23), .move (.tmp 21), none⟩,
    ⟨(some 11), .assign (.tmp 23), none⟩] [0, 1, 8, 9, 10, 11, 21])
  (.seq (.reg [⟨(some 24), .move (.tmp 0), none⟩,
    ⟨(some 25), .move (.tmp 1), none⟩,
    ⟨(some 26), .move (.tmp 11), none⟩,
    ⟨(some 27), .call ⟨.value (.func 47), #[(.tmp 24), (.tmp 25), (.tmp 26)], #[25, 32, 3]⟩, none⟩,
    ⟨(some 12), .assign (.tmp 27), none⟩] [0, 1, 8, 9, 10, 11, 12, 21])
  (.seq (.seq (.reg [⟨(some 28), .move (.tmp 12), none⟩,
    ⟨(some 29), .call ⟨.builtin .len, #[(.tmp 28)], #[32]⟩, none⟩,
    ⟨(some 30), .binOp .eql 3 (.tmp 29) (.const (.int .i64 0)) 3, none⟩] [0, 1, 8, 9, 10, 11, 12, 21, 30])
  (.cond (.tmp 30) (.exit 1)
  .skip))
  (.seq (.seq (.reg [⟨(some 31), .move (.tmp 8), none⟩,
    ⟨(some 32), .binOp .geq 3 (.tmp 31) (.const (.int .i64 0)) 3, none⟩] [0, 1, 11, 12, 21, 32])
  (.cond (.tmp 32) (.seq (.reg [⟨(some 4), .assign (.const (.int .i64 0)), none⟩,
    ⟨(some 5), .assign (.const (.int .i64 0)), none⟩,
    ⟨(some 6), .assign (.const (.int .i64 0)), none⟩,
    ⟨(some 7), .assign (.const (.bool false)), none⟩] [4, 5, 6, 7])
  .ret)
  .skip))
  (.regQ [⟨(some 33), .move (.tmp 11), none⟩,
    ⟨(some 34), .move (.tmp 12), none⟩,
    ⟨(some 35), .indexAddr 32 (.tmp 34) (.const (.int .i64 0)), none⟩,
    ⟨(some 36), .load 3 (.tmp 35), none⟩,
    ⟨(some 37), .move (.tmp 12), none⟩,
    ⟨(some 38), .move (.tmp 12), none⟩,
    ⟨(some 39), .call ⟨.builtin .len, #[(.tmp 38)], #[32]⟩, none⟩,
    ⟨(some 40), .binOp .sub 3 (.tmp 39) (.const (.int .i64 1)) 3, none⟩,
    ⟨(some 41), .indexAddr 32 (.tmp 37) (.tmp 40), none⟩,
    ⟨(some 42), .load 3 (.tmp 41), none⟩,
    ⟨(some 8), .assign (.tmp 33), none⟩,
    ⟨(some 9), .assign (.tmp 36), none⟩,
    ⟨(some 10), .assign (.tmp 42), none⟩] [0, 1, 8, 9, 10, 21]))))))
  (.reg [⟨(some 43), .binOp .add 3 (.tmp 21) (.const (.int .i64 1)) 3, none⟩,
    ⟨(some 21), .move (.tmp 43), none⟩] [0, 1, 8, 9, 10, 21]))))
/-- loop.example/g01062/impl.TellPosition: number 29, params [0, 1] -/
def impl_TellPosition_c : ACode := (.seq (.reg [⟨(some 4), .assign (.const (.int .i64 0)), none⟩,
    ⟨(some 5), .assign (.const (.int .i64 0)), none⟩,
    ⟨(some 6), .assign (.const (.int .i64 0)), none⟩,
    ⟨(some 7), .assign (.const (.bool false)), none⟩] [0, 1])
  (.seq (.seq (.reg [⟨(some 13), .move (.tmp 0), none⟩,
    ⟨(some 14), .call ⟨.value (.func 34), #[(.tmp 13)], #[25]⟩, none⟩,
    ⟨(some 15), .unOp .not 4 (.tmp 14), none⟩,
    ⟨(some 16), .move (.tmp 15), none⟩,
    ⟨(some 17), .move (.tmp 1), (some (some 16, false))⟩,
    ⟨(some 18), .call ⟨.value (.func 44), #[(.tmp 17)], #[32]⟩, (some (some 16, false))⟩,
    ⟨(some 19), .unOp .not 4 (.tmp 18), (some (some 16, false))⟩,
    ⟨(some 20), .pick (.tmp 16) (.const (.bool true)) (.tmp 19), none⟩] [0, 1, 20])
  (.cond (.tmp 20) (.seq (.reg [⟨(some 4), .assign (.const (.int .i64 0)), none⟩,
    ⟨(some 5), .assign (.const (.int .i64 0)), none⟩,
    ⟨(some 6), .assign (.const (.int .i64 0)), none⟩,
    ⟨(some 7), .assign (.const (.bool false)), none⟩] [4, 5, 6, 7])
  .ret)
  .skip))
  (.seq (.reg [⟨(some 8), .assign (.const (.int .i64 (-1))), none⟩,
    ⟨(some 9), .assign (.const (.int .i64 0)), none⟩,
    ⟨(some 10), .assign (.const (.int .i64 0)), none⟩] [0, 1, 8, 9, 10])
  (.seq (.seq (.reg [⟨(some 21), .move (.const (.int .i64 0)), none⟩] [0, 1, 8, 9, 10, 21])
  (.block 0 (.loop impl_TellPosition_l0)))
  (.seq (.seq (.reg [⟨(some 44), .move (.tmp 8), none⟩,
    ⟨(some 45), .binOp .lss 3 (.tmp 44) (.const (.int .i64 0)) 3, none⟩] [8, 9, 10, 45])
  (.cond (.tmp 45) (.seq (.reg [⟨(some 4), .assign (.const (.int .i64 0)), none⟩,
    ⟨(some 5), .assign (.const (.int .i64 0)), none⟩,
    ⟨(some 6), .assign (.const (.int .i64 0)), none⟩,
    ⟨(some 7), .assign (.const (.bool false)), none⟩] [4, 5, 6, 7])
  .ret)
  .skip))
  (.seq (.reg [⟨(some 46), .move (.tmp 8), none⟩,
    ⟨(some 47), .move (.tmp 9), none⟩,
    ⟨(some 48), .move (.tmp 10), none⟩,
    ⟨(some 4), .assign (.tmp 46), none⟩,
    ⟨(some 5), .assign (.tmp 47), none⟩,
    ⟨(some 6), .assign (.tmp 48), none⟩,
    ⟨(some 7), .assign (.const (.bool true)), none⟩] [4, 5, 6, 7])
  .ret))))))
theorem impl_TellPosition_k : fnOk Try.prog 29 = some (impl_TellPosition_c.strip, 49, [.tmp 4, .tmp 5, .tmp 6, .tmp 7]) := by kernel_rfl
/-- loop.example/g01062/spec.StatesFor: number 30, params [0, 1, 2] -/
def spec_StatesFor_c : ACode := (.seq (.reg [⟨(some 6), .assign (.const (.slice none 0 0)), none⟩,
    ⟨(some 7), .assign (.const (.bool false)), none⟩] [0, 1, 2])
  (.seq (.seq (.reg [⟨(some 8), .move (.tmp 0), none⟩,
    ⟨(some 9), .call ⟨.value (.func 32), #[(.tmp 8)], #[25]⟩, none⟩,
    ⟨(some 10), .unOp .not 4 (.tmp 9), none⟩,
    ⟨(some 11), .move (.tmp 10), none⟩,
    ⟨(some 12), .move (.tmp 1), (some (some 11, false))⟩,
    ⟨(some 13), .call ⟨.value (.func 42), #[(.tmp 12)], #[32]⟩, (some (some 11, false))⟩,
    ⟨(some 14), .unOp .not 4 (.tmp 13), (some (some 11, false))⟩,
    ⟨(some 15), .pick (.tmp 11) (.const (.bool true)) (.tmp 14), none⟩,
    ⟨(some 16), .move (.tmp 15), none⟩,
    ⟨(some 17), .move (.tmp 2), (some (some 16, false))⟩,
    ⟨(some 18), .call ⟨.value (.func 40), #[(.tmp 17)], #[3]⟩, (some (some 16, false))⟩,
    ⟨(some 19), .unOp .not 4 (.tmp 18), (some (some 16, false))⟩,
    ⟨(some 20), .pick (.tmp 16) (.const (.bool true)) (.tmp 19), none⟩] [0, 1, 2, 20])
  (.cond (.tmp 20) (.seq (.reg [⟨(some 21), .buildSlice 32 0 #[], none⟩,
    ⟨(some 6), .assign (.tmp 21), none⟩,
    ⟨(some 7), .assign (.const (.bool false)), none⟩] [6, 7])
  .ret)
  .skip))
  (.seq (.reg [⟨(some 22), .move (.tmp 0), none⟩,
    ⟨(some 23), .move (.tmp 1), none⟩,
    ⟨(some 24), .move (.tmp 2), none⟩,
    ⟨(some 25), .call ⟨.value (.func 46), #[(.tmp 22), (.tmp 23), (.tmp 24)], #[25, 32, 3]⟩, none⟩,
    ⟨(some 6), .assign (.tmp 25), none⟩,
    ⟨(some 7), .assign (.const (.bool true)), none⟩] [6, 7])
  .ret)))
theorem spec_StatesFor_k : fnOk Try.prog 30 = some (spec_StatesFor_c.strip, 26, [.tmp 6, .tmp 7]) := by kernel_rfl
/-- loop.example/g01062/impl.StatesFor: number 31, params [0, 1, 2] -/
def impl_StatesFor_c : ACode := (.seq (.reg [⟨(some 6), .assign (.const (.slice none 0 0)), none⟩,
    ⟨(some 7), .assign (.const (.bool false)), none⟩] [0, 1, 2])
  (.seq (.seq (.reg [⟨(some 8), .move (.tmp 0), none⟩,
    ⟨(some 9), .call ⟨.value (.func 34), #[(.tmp 8)], #[25]⟩, none⟩,
    ⟨(some 10), .unOp .not 4 (.tmp 9), none⟩,
    ⟨(some 11), .move (.tmp 10), none⟩,
    ⟨(some 12), .move (.tmp 1), (some (some 11, false))⟩,
    ⟨(some 13), .call ⟨.value (.func 44), #[(.tmp 12)], #[32]⟩, (some (some 11, false))⟩,
    ⟨(some 14), .unOp .not 4 (.tmp 13), (some (some 11, false))⟩,
    ⟨(some 15), .pick (.tmp 11) (.const (.bool true)) (.tmp 14), none⟩,
    ⟨(some 16), .move (.tmp 15), none⟩,
    ⟨(some 17), .move (.tmp 2), (some (some 16, false))⟩,
    ⟨(some 18), .call ⟨.value (.func 41), #[(.tmp 17)], #[3]⟩, (some (some 16, false))⟩,
    ⟨(some 19), .unOp .not 4 (.tmp 18), (some (some 16, false))⟩,
    ⟨(some 20), .pick (.tmp 16) (.const (.bool true)) (.tmp 19), none⟩] [0, 1, 2, 20])
  (.cond (.tmp 20) (.seq (.reg [⟨(some 6), .assign (.const (.slice none 0 0)), none⟩,
    ⟨(some 7), .assign (.const (.bool false)), none⟩] [6, 7])
  .ret)
  .skip))
  (.seq (.reg [⟨(some 21), .move (.tmp 0), none⟩,
    ⟨(some 22), .move (.tmp 1), none⟩,
    ⟨(some 23), .move (.tmp 2), none⟩,
    ⟨(some 24), .call ⟨.value (.func 47), #[(.tmp 21), (.tmp 22), (.tmp 23)], #[25, 32, 3]⟩, none⟩,
    ⟨(some 6), .assign (.tmp 24), none⟩,
    ⟨(some 7), .assign (.const (.bool true)), none⟩] [6, 7])
  .ret)))
theorem impl_StatesFor_k : fnOk Try.prog 31 = some (impl_StatesFor_c.strip, 25, [.tmp 6, .tmp 7]) := by kernel_rfl
/-- head: [0, 3] -/
def spec_l15Good_l0 : ACode := (.seq (.seq (.reg [⟨(some 4), .move (.tmp 3), none⟩,
    ⟨(some 5), .move (.tmp 0), none⟩,
    ⟨(some 6), .call ⟨.builtin .len, #[(.tmp 5)], #[25]⟩, none⟩,
    ⟨(some 7), .binOp .lss 3 (.tmp 4) (.tmp 6) 3, none⟩] [0, 3, 7])
  (.cond (.tmp 7) .skip
  (.exit 0)))
  (.seq (.block 1 (.seq (.regQ [⟨(some 10), .move (.tmp 0), none⟩,
    ⟨(some 11), .move (.tmp 3), none⟩,
    ⟨(some 12), .indexAddr 25 (.tmp 10) (.tmp 11), none⟩,
    ⟨(some 13), .load 47 (.tmp 12), none⟩,
    ⟨(some 14), .call ⟨.value (.func 48), #[(.tmp 13)], #[47]⟩, none⟩,
    ⟨(some 15), .unOp .not 4 (.tmp 14), none⟩,
    ⟨(some 16), .move (.tmp 15), none⟩,
    ⟨(some 17), .move (.tmp 3), (some (some 16, false))⟩,
    ⟨(some 18), .binOp .gtr 3 (.tmp 17) (.const (.int .i64 0)) 3, (some (some 16, false))⟩,
    ⟨(some 19), .move (.tmp 18), (some (some 16, false))⟩,
    ⟨(some 20), .move (.tmp 0), (some (some 19, true))⟩,
    ⟨(some 21), .move (.tmp 3), (some (some 19, true))⟩,
    ⟨(some 22), .binOp .sub 3 (.tmp 21) (.const (.int .i64 1)) 3, (some (some 19, true))⟩,
    ⟨(some 23), .indexAddr 25 (.tmp 20) (.tmp 22), (some (some 19, true))⟩,
    ⟨(some 24), .load 47 (.tmp 23), (some (some 19, true))⟩,
    ⟨(some 25), .call ⟨.value (.func 49), #[(.tmp 24)], #[47]⟩, (some (some 19, true))⟩,
    ⟨(some 26), .move (.tmp 0), (some (some 19, true))⟩,
    ⟨(some 27), .move (.tmp 3), (some (some 19, true))⟩,
    ⟨(some 28), .indexAddr 25 (.tmp 26) (.tmp 27), (some (some 19, true))⟩,
    ⟨(some 29), .load 47 (.tmp 28), (some (some 19, true))⟩,
    ⟨(some 30), .call ⟨.value (.func 49), #[(.tmp 29)], #[47]⟩, (some (some 19, true))⟩,
    ⟨(some 31), .binOp .geq 3 (.tmp 25) (.tmp 30) 3, (some (some 19, true))⟩,
    ⟨(some 32), .pick (.tmp 19) (.tmp 31) (.const (.bool false)), (some (some 16, false))⟩,
    ⟨(some 33), .pick (.tmp 16) (.const (.bool true)) (.tmp 32), none⟩] [0, 3, 33])
  (.cond (.tmp 33) (.seq (.reg [⟨(some 2), .assign (.const (.bool false)), none⟩] [2])
  .ret)
  .skip)))
  (.reg [⟨(some 8), .move (.tmp 3), none⟩,
    ⟨(some 9), .binOp .add 3 (.tmp 8) (.const (.int .i64 1)) 3, none⟩,
    ⟨(some 3), .assign (.tmp 9), none⟩] [0, 3])))
/-- loop.example/g01062/spec.l15Good: number 32, params [0] -/
def spec_l15Good_c : ACode := (.seq (.reg [⟨(some 2), .assign (.const (.bool false)), none⟩] [0])
  (.seq (.seq (.reg [⟨(some 3), .assign (.const (.int .i64 0)), none⟩] [0, 3])
  (.block 0 (.loop spec_l15Good_l0)))
  (.seq (.reg [⟨(some 34), .move (.tmp 0), none⟩,
    ⟨(some 35), .call ⟨.builtin .len, #[(.tmp 34)], #[25]⟩, none⟩,
    ⟨(some 36), .binOp .leq 3 (.tmp 35) (.const (.int .i64 20)) 3, none⟩,
    ⟨(some 2), .assign (.tmp 36), none⟩] [2])
  .ret)))
theorem spec_l15Good_k : fnOk Try.prog 32 = some (spec_l15Good_c.strip, 37, [.tmp 2]) := by kernel_rfl
/-- loop.example/g01062/laws.toFlaw: number 33, params [0] -/
def laws_toFlaw_c : ACode := (.seq (.reg [⟨(some 1), .box 49 (.tmp 0), none⟩,
    ⟨(some 2), .alloc 47, none⟩] [1, 2])
  (.seq (.reg [⟨(some 3), .alloc 47, none⟩] [1, 2, 3])
  (.seq (.reg [⟨(some 4), .fieldAddr 49 (.tmp 1) 0, none⟩,
    ⟨(some 5), .load 3 (.tmp 4), none⟩,
    ⟨(some 6), .fieldAddr 47 (.tmp 3) 0, none⟩,
    ⟨none, .store 3 (.tmp 6) (.tmp 5), none⟩] [1, 2, 3])
  (.seq (.reg [⟨(some 7), .fieldAddr 49 (.tmp 1) 1, none⟩,
    ⟨(some 8), .load 3 (.tmp 7), none⟩,
    ⟨(some 9), .fieldAddr 47 (.tmp 3) 1, none⟩,
    ⟨none, .store 3 (.tmp 9) (.tmp 8), none⟩] [1, 2, 3])
  (.seq (.reg [⟨(some 10), .fieldAddr 49 (.tmp 1) 2, none⟩,
    ⟨(some 11), .load 3 (.tmp 10), none⟩,
    ⟨(some 12), .fieldAddr 47 (.tmp 3) 2, none⟩,
    ⟨none, .store 3 (.tmp 12) (.tmp 11), none⟩] [1, 2, 3])
  (.seq (.reg [⟨(some 13), .fieldAddr 49 (.tmp 1) 3, none⟩,
    ⟨(some 14), .load 3 (.tmp 13), none⟩,
    ⟨(some 15), .fieldAddr 47 (.tmp 3) 3, none⟩,
    ⟨none, .store 3 (.tmp 15) (.tmp 14), none⟩] [2, 3])
  (.seq (.reg [⟨(some 16), .load 47 (.tmp 3), none⟩,
    ⟨none, .store 47 (.tmp 2) (.tmp 16), none⟩] [2])
  .ret)))))))
theorem laws_toFlaw_k : fnOk Try.prog 33 = some (laws_toFlaw_c.strip, 17, [.cell 2 47]) := by kernel_rfl
/-- head: [0, 5, 6, 7] -/
def impl_areFlaws_l0 : ACode := (.seq (.reg [⟨(some 8), .binOp .lss 3 (.tmp 7) (.tmp 6) 3, none⟩] [0, 5, 6, 7, 8])
  (.seq (.cond (.tmp 8) .skip
  (.exit 0))
  (.seq (.block 1 (.seq (.reg [⟨(some 9), .move (.tmp 7), none⟩,
    ⟨(some 10), .indexAddr 25 (.tmp 5) (.tmp 7), none⟩,
    ⟨(some 11), .load 47 (.tmp 10), none⟩,
    ⟨(some 4), .alloc 47, none⟩,
    ⟨(some 3), .assign (.tmp 9), none⟩,
    ⟨none, .store 47 (.tmp 4) (.tmp 11), none⟩] [0, 3, 4, 5, 6, 7])
  (.seq (.regQ [⟨(some 12), .load 47 (.tmp 4), none⟩,
    ⟨(some 13), .call ⟨.value (.func 50), #[(.tmp 12)], #[47]⟩, none⟩,
    ⟨(some 14), .unOp .not 4 (.tmp 13), none⟩,
    ⟨(some 15), .move (.tmp 14), none⟩,
    ⟨(some 16), .move (.tmp 3), (some (some 15, false))⟩,
    ⟨(some 17), .binOp .gtr 3 (.tmp 16) (.const (.int .i64 0)) 3, (some (some 15, false))⟩,
    ⟨(some 18), .move (.tmp 17), (some (some 15, false))⟩,
    ⟨(some 19), .move (.tmp 0), (some (some 18, true))⟩,
    ⟨(some 20), .move (.tmp 3), (some (some 18, true))⟩,
    ⟨(some 21), .binOp .sub 3 (.tmp 20) (.const (.int .i64 1)) 3, (some (some 18, true))⟩,
    ⟨(some 22), .indexAddr 25 (.tmp 19) (.tmp 21), (some (some 18, true))⟩,
    ⟨(some 23), .load 47 (.tmp 22), (some (some 18, true))⟩,
    ⟨(some 24), .load 47 (.tmp 4), (some (some 18, true))⟩,
    ⟨(some 25), .call ⟨.value (.func 51), #[(.tmp 23), (.tmp 24)], #[47, 47]⟩, (some (some 18, true))⟩,
    ⟨(some 26), .binOp .geq 3 (.tmp 25) (.const (.int .i64 0)) 3, (some (some 18, true))⟩,
    ⟨(some 27), .pick (.tmp 18) (.tmp 26) (.const (.bool false)), (some (some 15, false))⟩,
    ⟨(some 28), .pick (.tmp 15) (.const (.bool true)) (.tmp 27), none⟩] [0, 5, 6, 7, 28])
  (.cond (.tmp 28) (.seq (.reg [⟨(some 2), .assign (.const (.bool false)), none⟩] [2])
  .ret)
  .skip))))
  (.reg [⟨(some 29), .binOp .add 3 (.tmp 7) (.const (.int .i64 1)) 3, none⟩,
    ⟨(some 7), .move (.tmp 29), none⟩] [0, 5, 6, 7]))))
/-- loop.example/g01062/impl.areFlaws: number 34, params [0] -/
def impl_areFlaws_c : ACode := (.seq (.reg [⟨(some 2), .assign (.const (.bool false)), none⟩] [0])
  (.seq (.seq (.reg [⟨(some 5), .move (.tmp 0), none⟩,
    ⟨(some 6), .call ⟨.builtin .len, #[(.tmp 5)], #[25]⟩, none⟩,
    ⟨(some 7), .move (.const (.int .i64 0)), none⟩] [0, 5, 6, 7])
  (.block 0 (.loop impl_areFlaws_l0)))
  (.seq (.reg [⟨(some 30), .move (.tmp 0), none⟩,
    ⟨(some 31), .call ⟨.builtin .len, #[(.tmp 30)], #[25]⟩, none⟩,
    ⟨(some 32), .binOp .leq 3 (.tmp 31) (.const (.int .i64 20)) 3, none⟩,
    ⟨(some 2), .assign (.tmp 32), none⟩] [2])
  .ret)))
theorem impl_areFlaws_k : fnOk Try.prog 34 = some (impl_areFlaws_c.strip, 33, [.tmp 2]) := by kernel_rfl
/-- loop.example/g01062/laws.eqFlaw: number 35, params [0, 1] -/
def laws_eqFlaw_c : ACode := (.seq (.reg [⟨(some 2), .box 47 (.tmp 0), none⟩,
    ⟨(some 3), .box 47 (.tmp 1), none⟩,
    ⟨(some 4), .assign (.const (.bool false)), none⟩] [2, 3])
  (.seq (.seq (.reg [⟨(some 5), .fieldAddr 47 (.tmp 2) 0, none⟩,
    ⟨(some 6), .load 3 (.tmp 5), none⟩,
    ⟨(some 7), .fieldAddr 47 (.tmp 3) 0, none⟩,
    ⟨(some 8), .load 3 (.tmp 7), none⟩,
    ⟨(some 9), .binOp .neq 3 (.tmp 6) (.tmp 8) 3, none⟩] [2, 3, 9])
  (.cond (.tmp 9) (.seq (.reg [⟨(some 4), .assign (.const (.bool false)), none⟩] [4])
  .ret)
  .skip))
  (.seq (.seq (.reg [⟨(some 10), .fieldAddr 47 (.tmp 2) 1, none⟩,
    ⟨(some 11), .load 3 (.tmp 10), none⟩,
    ⟨(some 12), .fieldAddr 47 (.tmp 3) 1, none⟩,
    ⟨(some 13), .load 3 (.tmp 12), none⟩,
    ⟨(some 14), .binOp .neq 3 (.tmp 11) (.tmp 13) 3, none⟩] [2, 3, 14])
  (.cond (.tmp 14) (.seq (.reg [⟨(some 4), .assign (.const (.bool false)), none⟩] [4])
  .ret)
  .skip))
  (.seq (.seq (.reg [⟨(some 15), .fieldAddr 47 (.tmp 2) 2, none⟩,
    ⟨(some 16), .load 3 (.tmp 15), none⟩,
    ⟨(some 17), .fieldAddr 47 (.tmp 3) 2, none⟩,
    ⟨(some 18), .load 3 (.tmp 17), none⟩,
    ⟨(some 19), .binOp .neq 3 (.tmp 16) (.tmp 18) 3, none⟩] [2, 3, 19])
  (.cond (.tmp 19) (.seq (.reg [⟨(some 4), .assign (.const (.bool false)), none⟩] [4])
  .ret)
  .skip))
  (.seq (.seq (.reg [⟨(some 20), .fieldAddr 47 (.tmp 2) 3, none⟩,
    ⟨(some 21), .load 3 (.tmp 20), none⟩,
    ⟨(some 22), .fieldAddr 47 (.tmp 3) 3, none⟩,
    ⟨(some 23), .load 3 (.tmp 22), none⟩,
    ⟨(some 24), .binOp .neq 3 (.tmp 21) (.tmp 23) 3, none⟩] [24])
  (.cond (.tmp 24) (.seq (.reg [⟨(some 4), .assign (.const (.bool false)), none⟩] [4])
  .ret)
  .skip))
  (.seq (.reg [⟨(some 4), .assign (.const (.bool true)), none⟩] [4])
  .ret))))))
theorem laws_eqFlaw_k : fnOk Try.prog 35 = some (laws_eqFlaw_c.strip, 25, [.tmp 4]) := by kernel_rfl
/-- loop.example/g01062/spec.l15State: number 36, params [0] -/
def spec_l15State_c : ACode := (.seq (.reg [⟨(some 2), .assign (.const (.bool false)), none⟩] [0])
  (.seq (.reg [⟨(some 3), .move (.tmp 0), none⟩,
    ⟨(some 4), .call ⟨.value (.func 52), #[(.tmp 3), (.const (.int .i64 1)), (.const (.int .i64 9))], #[3, 3, 3]⟩, none⟩,
    ⟨(some 2), .assign (.tmp 4), none⟩] [2])
  .ret))
theorem spec_l15State_k : fnOk Try.prog 36 = some (spec_l15State_c.strip, 5, [.tmp 2]) := by kernel_rfl
/-- head: [0, 1, 2, 7, 8] -/
def spec_l15Codes_l0 : ACode := (.seq (.seq (.reg [⟨(some 11), .move (.tmp 8), none⟩,
    ⟨(some 12), .move (.tmp 0), none⟩,
    ⟨(some 13), .call ⟨.builtin .len, #[(.tmp 12)], #[25]⟩, none⟩,
    ⟨(some 14), .binOp .lss 3 (.tmp 11) (.tmp 13) 3, none⟩] [0, 1, 2, 7, 8, 14])
  (.cond (.tmp 14) .skip
  (.exit 0)))
  (.seq (.block 1 (.seq (.reg [⟨(some 17), .move (.tmp 0), none⟩,
    ⟨(some 18), .move (.tmp 8), none⟩,
    ⟨(some 19), .indexAddr 25 (.tmp 17) (.tmp 18), none⟩,
    ⟨(some 20), .load 47 (.tmp 19), none⟩,
    ⟨(some 9), .alloc 47, none⟩,
    ⟨none, .store 47 (.tmp 9) (.tmp 20), none⟩] [0, 1, 2, 7, 8, 9])
  (.seq (.reg [⟨(some 21), .fieldAddr 47 (.tmp 9) 0, none⟩,
    ⟨(some 22), .load 3 (.tmp 21), none⟩,
    ⟨(some 23), .binOp .mul 3 (.const (.int .i64 10)) (.tmp 22) 3, none⟩,
    ⟨(some 24), .fieldAddr 47 (.tmp 9) 1, none⟩,
    ⟨(some 25), .load 3 (.tmp 24), none⟩,
    ⟨(some 26), .binOp .add 3 (.tmp 23) (.tmp 25) 3, none⟩,
    ⟨(some 27), .move (.tmp 1), none⟩,
    ⟨(some 28), .binOp .eql 3 (.tmp 26) (.tmp 27) 3, none⟩,
    ⟨(some 29), .move (.tmp 28), none⟩,
    ⟨(some 30), .fieldAddr 47 (.tmp 9) 3, (some (some 29, true))⟩,
    ⟨(some 31), .load 3 (.tmp 30), (some (some 29, true))⟩,
    ⟨(some 32), .move (.tmp 2), (some (some 29, true))⟩,
    ⟨(some 33), .binOp .leq 3 (.tmp 31) (.tmp 32) 3, (some (some 29, true))⟩,
    ⟨(some 34), .pick (.tmp 29) (.tmp 33) (.const (.bool false)), none⟩] [0, 1, 2, 7, 8, 9, 34])
  (.cond (.tmp 34) (.reg [⟨(some 35), .move (.tmp 7), none⟩,
    ⟨(some 36), .fieldAddr 47 (.tmp 9) 2, none⟩,
    ⟨(some 37), .load 3 (.tmp 36), none⟩,
    ⟨(some 38), .buildSlice 32 1 #[(0, (.tmp 37))], none⟩,
    ⟨(some 39), .call ⟨.builtin .append, #[(.tmp 35), (.tmp 38)], #[32, 32]⟩, none⟩,
    ⟨(some 7), .assign (.tmp 39), none⟩] [0, 1, 2, 7, 8])
  .skip))))
  (.reg [⟨(some 15), .move (.tmp 8), none⟩,
    ⟨(some 16), .binOp .add 3 (.tmp 15) (.const (.int .i64 1)) 3, none⟩,
    ⟨(some 8), .assign (.tmp 16), none⟩] [0, 1, 2, 7, 8])))
/-- loop.example/g01062/spec.l15Codes: number 37, params [0, 1, 2] -/
def spec_l15Codes_c : ACode := (.seq (.reg [⟨(some 6), .assign (.const (.slice none 0 0)), none⟩] [0, 1, 2])
  (.seq (.reg [⟨(some 10), .buildSlice 32 0 #[], none⟩,
    ⟨(some 7), .assign (.tmp 10), none⟩] [0, 1, 2, 7])
  (.seq (.seq (.reg [⟨(some 8), .assign (.const (.int .i64 0)), none⟩] [0, 1, 2, 7, 8])
  (.block 0 (.loop spec_l15Codes_l0)))
  (.seq (.reg [⟨(some 40), .move (.tmp 7), none⟩,
    ⟨(some 6), .assign (.tmp 40), none⟩] [6])
  .ret))))
theorem spec_l15Codes_k : fnOk Try.prog 37 = some (spec_l15Codes_c.strip, 41, [.tmp 6]) := by kernel_rfl
/-- loop.example/g01062/impl.isState: number 38, params [0] -/
def impl_isState_c : ACode := (.seq (.reg [⟨(some 2), .assign (.const (.bool false)), none⟩] [0])
  (.seq (.reg [⟨(some 3), .move (.tmp 0), none⟩,
    ⟨(some 4), .call ⟨.value (.func 53), #[(.tmp 3), (.const (.int .i64 1)), (.const (.int .i64 9))], #[3, 3, 3]⟩, none⟩,
    ⟨(some 2), .assign (.tmp 4), none⟩] [2])
  .ret))
theorem impl_isState_k : fnOk Try.prog 38 = some (impl_isState_c.strip, 5, [.tmp 2]) := by kernel_rfl
/-- head: [1, 2, 7, 10, 11, 12] -/
def impl_codesAt_l0 : ACode := (.seq (.reg [⟨(some 13), .binOp .lss 3 (.tmp 12) (.tmp 11) 3, none⟩] [1, 2, 7, 10, 11, 12, 13])
  (.seq (.cond (.tmp 13) .skip
  (.exit 0))
  (.seq (.block 1 (.seq (.reg [⟨(some 14), .indexAddr 25 (.tmp 10) (.tmp 12), none⟩,
    ⟨(some 15), .load 47 (.tmp 14), none⟩,
    ⟨(some 9), .alloc 47, none⟩,
    ⟨none, .store 47 (.tmp 9) (.tmp 15), none⟩] [1, 2, 7, 9, 10, 11, 12])
  (.seq (.reg [⟨(some 16), .fieldAddr 47 (.tmp 9) 0, none⟩,
    ⟨(some 17), .load 3 (.tmp 16), none⟩,
    ⟨(some 18), .binOp .mul 3 (.const (.int .i64 10)) (.tmp 17) 3, none⟩,
    ⟨(some 19), .fieldAddr 47 (.tmp 9) 1, none⟩,
    ⟨(some 20), .load 3 (.tmp 19), none⟩,
    ⟨(some 21), .binOp .add 3 (.tmp 18) (.tmp 20) 3, none⟩,
    ⟨(some 22), .move (.tmp 1), none⟩,
    ⟨(some 23), .binOp .eql 3 (.tmp 21) (.tmp 22) 3, none⟩,
    ⟨(some 24), .move (.tmp 23), none⟩,
    ⟨(some 25), .fieldAddr 47 (.tmp 9) 3, (some (some 24, true))⟩,
    ⟨(some 26), .load 3 (.tmp 25), (some (some 24, true))⟩,
    ⟨(some 27), .move (.tmp 2), (some (some 24, true))⟩,
    ⟨(some 28), .binOp .leq 3 (.tmp 26) (.tmp 27) 3, (some (some 24, true))⟩,
    ⟨(some 29), .pick (.tmp 24) (.tmp 28) (.const (.bool false)), none⟩] [1, 2, 7, 9, 10, 11, 12, 29])
  (.cond (.tmp 29) (.reg [⟨(some 30), .move (.tmp 7), none⟩,
    ⟨(some 31), .fieldAddr 47 (.tmp 9) 2, none⟩,
    ⟨(some 32), .load 3 (.tmp 31), none⟩,
    ⟨(some 33), .buildSlice 32 1 #[(0, (.tmp 32))], none⟩,
    ⟨(some 34), .call ⟨.builtin .append, #[(.tmp 30), (.tmp 33)], #[32, 32]⟩, none⟩,
    ⟨(some 7), .assign (.tmp 34), none⟩] [1, 2, 7, 10, 11, 12])
  .skip))))
  (.reg [⟨(some 35), .binOp .add 3 (.tmp 12) (.const (.int .i64 1)) 3, none⟩,
    ⟨(some 12), .move (.tmp 35), none⟩] [1, 2, 7, 10, 11, 12]))))
/-- loop.example/g01062/impl.codesAt: number 39, params [0, 1, 2] -/
def impl_codesAt_c : ACode := (.seq (.reg [⟨(some 6), .assign (.const (.slice none 0 0)), none⟩] [0, 1, 2])
  (.seq (.reg [⟨(some 7), .assign (.const (.slice none 0 0)), none⟩] [0, 1, 2, 7])
  (.seq (.seq (.reg [⟨(some 10), .move (.tmp 0), none⟩,
    ⟨(some 11), .call ⟨.builtin .len, #[(.tmp 10)], #[25]⟩, none⟩,
    ⟨(some 12), .move (.const (.int .i64 0)), none⟩] [1, 2, 7, 10, 11, 12])
  (.block 0 (.loop impl_codesAt_l0)))
  (.seq (.reg [⟨(some 36), .move (.tmp 7), none⟩,
    ⟨(some 6), .assign (.tmp 36), none⟩] [6])
  .ret))))
theorem impl_codesAt_k : fnOk Try.prog 39 = some (impl_codesAt_c.strip, 37, [.tmp 6]) := by kernel_rfl
/-- loop.example/g01062/spec.l15Position: number 40, params [0] -/
def spec_l15Position_c : ACode := (.seq (.reg [⟨(some 2), .assign (.const (.bool false)), none⟩] [0])
  (.seq (.reg [⟨(some 3), .move (.tmp 0), none⟩,
    ⟨(some 4), .call ⟨.value (.func 52), #[(.tmp 3), (.const (.int .i64 0)), (.const (.int .i64 99))], #[3, 3, 3]⟩, none⟩,
    ⟨(some 2), .assign (.tmp 4), none⟩] [2])
  .ret))
theorem spec_l15Position_k : fnOk Try.prog 40 = some (spec_l15Position_c.strip, 5, [.tmp 2]) := by kernel_rfl
/-- loop.example/g01062/impl.isPosition: number 41, params [0] -/
def impl_isPosition_c : ACode := (.seq (.reg [⟨(some 2), .assign (.const (.bool false)), none⟩] [0])
  (.seq (.reg [⟨(some 3), .move (.tmp 0), none⟩,
    ⟨(some 4), .call ⟨.value (.func 53), #[(.tmp 3), (.const (.int .i64 0)), (.const (.int .i64 99))], #[3, 3, 3]⟩, none⟩,
    ⟨(some 2), .assign (.tmp 4), none⟩] [2])
  .ret))
theorem impl_isPosition_k : fnOk Try.prog 41 = some (impl_isPosition_c.strip, 5, [.tmp 2]) := by kernel_rfl
/-- loop.example/g01062/spec.l15Shown: number 42, params [0] -/
def spec_l15Shown_c : ACode := (.seq (.reg [⟨(some 2), .assign (.const (.bool false)), none⟩] [0])
  (.seq (.reg [⟨(some 3), .move (.tmp 0), none⟩,
    ⟨(some 4), .call ⟨.builtin .len, #[(.tmp 3)], #[32]⟩, none⟩,
    ⟨(some 5), .binOp .leq 3 (.tmp 4) (.const (.int .i64 6)) 3, none⟩,
    ⟨(some 6), .move (.tmp 5), none⟩,
    ⟨(some 7), .move (.tmp 0), (some (some 6, true))⟩,
    ⟨(some 8), .call ⟨.value (.func 54), #[(.tmp 7), (.const (.int .i64 1)), (.const (.int .i64 99))], #[32, 3, 3]⟩, (some (some 6, true))⟩,
    ⟨(some 9), .pick (.tmp 6) (.tmp 8) (.const (.bool false)), none⟩,
    ⟨(some 2), .assign (.tmp 9), none⟩] [2])
  .ret))
theorem spec_l15Shown_k : fnOk Try.prog 42 = some (spec_l15Shown_c.strip, 10, [.tmp 2]) := by kernel_rfl
/-- head: [0, 1, 5] -/
def spec_l15Same_l0 : ACode := (.seq (.seq (.reg [⟨(some 11), .move (.tmp 5), none⟩,
    ⟨(some 12), .move (.tmp 0), none⟩,
    ⟨(some 13), .call ⟨.builtin .len, #[(.tmp 12)], #[32]⟩, none⟩,
    ⟨(some 14), .binOp .lss 3 (.tmp 11) (.tmp 13) 3, none⟩] [0, 1, 5, 14])
  (.cond (.tmp 14) .skip
  (.exit 0)))
  (.seq (.block 1 (.seq (.regQ [⟨(some 17), .move (.tmp 0), none⟩,
    ⟨(some 18), .move (.tmp 5), none⟩,
    ⟨(some 19), .indexAddr 32 (.tmp 17) (.tmp 18), none⟩,
    ⟨(some 20), .load 3 (.tmp 19), none⟩,
    ⟨(some 21), .move (.tmp 1), none⟩,
    ⟨(some 22), .move (.tmp 5), none⟩,
    ⟨(some 23), .indexAddr 32 (.tmp 21) (.tmp 22), none⟩,
    ⟨(some 24), .load 3 (.tmp 23), none⟩,
    ⟨(some 25), .binOp .neq 3 (.tmp 20) (.tmp 24) 3, none⟩] [0, 1, 5, 25])
  (.cond (.tmp 25) (.seq (.reg [⟨(some 4), .assign (.const (.bool false)), none⟩] [4])
  .ret)
  .skip)))
  (.reg [⟨(some 15), .move (.tmp 5), none⟩,
    ⟨(some 16), .binOp .add 3 (.tmp 15) (.const (.int .i64 1)) 3, none⟩,
    ⟨(some 5), .assign (.tmp 16), none⟩] [0, 1, 5])))
/-- loop.example/g01062/spec.l15Same: number 43, params [0, 1] -/
def spec_l15Same_c : ACode := (.seq (.reg [⟨(some 4), .assign (.const (.bool false)), none⟩] [0, 1])
  (.seq (.seq (.reg [⟨(some 6), .move (.tmp 0), none⟩,
    ⟨(some 7), .call ⟨.builtin .len, #[(.tmp 6)], #[32]⟩, none⟩,
    ⟨(some 8), .move (.tmp 1), none⟩,
    ⟨(some 9), .call ⟨.builtin .len, #[(.tmp 8)], #[32]⟩, none⟩,
    ⟨(some 10), .binOp .neq 3 (.tmp 7) (.tmp 9) 3, none⟩] [0, 1, 10])
  (.cond (.tmp 10) (.seq (.reg [⟨(some 4), .assign (.const (.bool false)), none⟩] [4])
  .ret)
  .skip))
  (.seq (.seq (.reg [⟨(some 5), .assign (.const (.int .i64 0)), none⟩] [0, 1, 5])
  (.block 0 (.loop spec_l15Same_l0)))
  (.seq (.reg [⟨(some 4), .assign (.const (.bool true)), none⟩] [4])
  .ret))))
theorem spec_l15Same_k : fnOk Try.prog 43 = some (spec_l15Same_c.strip, 26, [.tmp 4]) := by kernel_rfl
/-- loop.example/g01062/impl.areCodes: number 44, params [0] -/
def impl_areCodes_c : ACode := (.seq (.reg [⟨(some 2), .assign (.const (.bool false)), none⟩] [0])
  (.seq (.reg [⟨(some 3), .move (.tmp 0), none⟩,
    ⟨(some 4), .call ⟨.builtin .len, #[(.tmp 3)], #[32]⟩, none⟩,
    ⟨(some 5), .binOp .leq 3 (.tmp 4) (.const (.int .i64 6)) 3, none⟩,
    ⟨(some 6), .move (.tmp 5), none⟩,
    ⟨(some 7), .move (.tmp 0), (some (some 6, true))⟩,
    ⟨(some 8), .call ⟨.value (.func 55), #[(.tmp 7)], #[32]⟩, (some (some 6, true))⟩,
    ⟨(some 9), .pick (.tmp 6) (.tmp 8) (.const (.bool false)), none⟩,
    ⟨(some 10), .move (.tmp 9), none⟩,
    ⟨(some 11), .move (.tmp 0), (some (some 10, true))⟩,
    ⟨(some 12), .call ⟨.value (.func 56), #[(.tmp 11), (.func 57)], #[32, 51]⟩, (some (some 10, true))⟩,
    ⟨(some 13), .unOp .not 4 (.tmp 12), (some (some 10, true))⟩,
    ⟨(some 14), .pick (.tmp 10) (.tmp 13) (.const (.bool false)), none⟩,
    ⟨(some 2), .assign (.tmp 14), none⟩] [2])
  .ret))
theorem impl_areCodes_k : fnOk Try.prog 44 = some (impl_areCodes_c.strip, 15, [.tmp 2]) := by kernel_rfl
/-- head: [0, 1, 12, 13] -/
def slices_Equal___int_int__l0 : ACode := (.seq (.reg [⟨(some 14), .binOp .lss 3 (.tmp 13) (.tmp 12) 3, none⟩] [0, 1, 12, 13, 14])
  (.seq (.cond (.tmp 14) .skip
  (.exit 0))
  (.seq (.block 1 (.seq (.reg [⟨(some 15), .move (.tmp 13), none⟩,
    ⟨(some 5), .assign (.tmp 15), none⟩] [0, 1, 5, 12, 13])
  (.seq (.regQ [⟨(some 16), .move (.tmp 0), none⟩,
    ⟨(some 17), .move (.tmp 5), none⟩,
    ⟨(some 18), .indexAddr 32 (.tmp 16) (.tmp 17), none⟩,
    ⟨(some 19), .load 3 (.tmp 18), none⟩,
    ⟨(some 20), .move (.tmp 1), none⟩,
    ⟨(some 21), .move (.tmp 5), none⟩,
    ⟨(some 22), .indexAddr 32 (.tmp 20) (.tmp 21), none⟩,
    ⟨(some 23), .load 3 (.tmp 22), none⟩,
    ⟨(some 24), .binOp .neq 3 (.tmp 19) (.tmp 23) 3, none⟩] [0, 1, 12, 13, 24])
  (.cond (.tmp 24) (.seq (.reg [⟨(some 4), .assign (.const (.bool false)), none⟩] [4])
  .ret)
  .skip))))
  (.reg [⟨(some 25), .binOp .add 3 (.tmp 13) (.const (.int .i64 1)) 3, none⟩,
    ⟨(some 13), .move (.tmp 25), none⟩] [0, 1, 12, 13]))))
/-- slices.Equal[[]int,int]: number 45, params [0, 1] -/
def slices_Equal___int_int__c : ACode := (.seq (.reg [⟨(some 4), .assign (.const (.bool false)), none⟩] [0, 1])
  (.seq (.seq (.reg [⟨(some 6), .move (.tmp 0), none⟩,
    ⟨(some 7), .call ⟨.builtin .len, #[(.tmp 6)], #[32]⟩, none⟩,
    ⟨(some 8), .move (.tmp 1), none⟩,
    ⟨(some 9), .call ⟨.builtin .len, #[(.tmp 8)], #[32]⟩, none⟩,
    ⟨(some 10), .binOp .neq 3 (.tmp 7) (.tmp 9) 3, none⟩] [0, 1, 10])
  (.cond (.tmp 10) (.seq (.reg [⟨(some 4), .assign (.const (.bool false)), none⟩] [4])
  .ret)
  .skip))
  (.seq (.seq (.reg [⟨(some 11), .move (.tmp 0), none⟩,
    ⟨(some 12), .call ⟨.builtin .len, #[(.tmp 11)], #[32]⟩, none⟩,
    ⟨(some 13), .move (.const (.int .i64 0)), none⟩] [0, 1, 12, 13])
  (.block 0 (.loop slices_Equal___int_int__l0)))
  (.seq (.reg [⟨(some 4), .assign (.const (.bool true)), none⟩] [4])
  .ret))))
theorem slices_Equal___int_int__k : fnOk Try.prog 45 = some (slices_Equal___int_int__c.strip, 26, [.tmp 4]) := by kernel_rfl
/-- head: [0, 1, 2, 7, 8] -/
def spec_l15States_l0 : ACode := (.seq (.seq (.reg [⟨(some 10), .move (.tmp 8), none⟩,
    ⟨(some 11), .binOp .leq 3 (.tmp 10) (.const (.int .i64 9)) 3, none⟩] [0, 1, 2, 7, 8, 11])
  (.cond (.tmp 11) .skip
  (.exit 0)))
  (.seq (.block 1 (.seq (.reg [⟨(some 14), .move (.tmp 0), none⟩,
    ⟨(some 15), .move (.tmp 2), none⟩,
    ⟨(some 16), .move (.tmp 8), none⟩,
    ⟨(some 17), .call ⟨.value (.func 37), #[(.tmp 14), (.tmp 15), (.tmp 16)], #[25, 3, 3]⟩, none⟩,
    ⟨(some 18), .move (.tmp 1), none⟩,
    ⟨(some 19), .call ⟨.value (.func 43), #[(.tmp 17), (.tmp 18)], #[32, 32]⟩, none⟩] [0, 1, 2, 7, 8, 19])
  (.cond (.tmp 19) (.reg [⟨(some 20), .move (.tmp 7), none⟩,
    ⟨(some 21), .move (.tmp 8), none⟩,
    ⟨(some 22), .buildSlice 32 1 #[(0, (.tmp 21))], none⟩,
    ⟨(some 23), .call ⟨.builtin .append, #[(.tmp 20), (.tmp 22)], #[32, 32]⟩, none⟩,
    ⟨(some 7), .assign (.tmp 23), none⟩] [0, 1, 2, 7, 8])
  .skip)))
  (.reg [⟨(some 12), .move (.tmp 8), none⟩,
    ⟨(some 13), .binOp .add 3 (.tmp 12) (.const (.int .i64 1)) 3, none⟩,
    ⟨(some 8), .assign (.tmp 13), none⟩] [0, 1, 2, 7, 8])))
/-- loop.example/g01062/spec.l15States: number 46, params [0, 1, 2] -/
def spec_l15States_c : ACode := (.seq (.reg [⟨(some 6), .assign (.const (.slice none 0 0)), none⟩] [0, 1, 2])
  (.seq (.reg [⟨(some 9), .buildSlice 32 0 #[], none⟩,
    ⟨(some 7), .assign (.tmp 9), none⟩] [0, 1, 2, 7])
  (.seq (.seq (.reg [⟨(some 8), .assign (.const (.int .i64 1)), none⟩] [0, 1, 2, 7, 8])
  (.block 0 (.loop spec_l15States_l0)))
  (.seq (.reg [⟨(some 24), .move (.tmp 7), none⟩,
    ⟨(some 6), .assign (.tmp 24), none⟩] [6])
  .ret))))
theorem spec_l15States_k : fnOk Try.prog 46 = some (spec_l15States_c.strip, 25, [.tmp 6]) := by kernel_rfl
/-- head: [0, 1, 2, 7, 8] -/
def impl_statesFor_l0 : ACode := (.seq (.seq (.reg [⟨(some 9), .move (.tmp 8), none⟩,
    ⟨(some 10), .binOp .leq 3 (.tmp 9) (.const (.int .i64 9)) 3, none⟩] [0, 1, 2, 7, 8, 10])
  (.cond (.tmp 10) .skip
  (.exit 0)))
  (.seq (.block 1 (.seq (.reg [⟨(some 13), .move (.tmp 0), none⟩,
    ⟨(some 14), .move (.tmp 2), none⟩,
    ⟨(some 15), .move (.tmp 8), none⟩,
    ⟨(some 16), .call ⟨.value (.func 39), #[(.tmp 13), (.tmp 14), (.tmp 15)], #[25, 3, 3]⟩, none⟩,
    ⟨(some 17), .move (.tmp 1), none⟩,
    ⟨(some 18), .call ⟨.value (.func 45), #[(.tmp 16), (.tmp 17)], #[32, 32]⟩, none⟩] [0, 1, 2, 7, 8, 18])
  (.cond (.tmp 18) (.reg [⟨(some 19), .move (.tmp 7), none⟩,
    ⟨(some 20), .move (.tmp 8), none⟩,
    ⟨(some 21), .buildSlice 32 1 #[(0, (.tmp 20))], none⟩,
    ⟨(some 22), .call ⟨.builtin .append, #[(.tmp 19), (.tmp 21)], #[32, 32]⟩, none⟩,
    ⟨(some 7), .assign (.tmp 22), none⟩] [0, 1, 2, 7, 8])
  .skip)))
  (.reg [⟨(some 11), .move (.tmp 8), none⟩,
    ⟨(some 12), .binOp .add 3 (.tmp 11) (.const (.int .i64 1)) 3, none⟩,
    ⟨(some 8), .assign (.tmp 12), none⟩] [0, 1, 2, 7, 8])))
/-- loop.example/g01062/impl.statesFor: number 47, params [0, 1, 2] -/
def impl_statesFor_c : ACode := (.seq (.reg [⟨(some 6), .assign (.const (.slice none 0 0)), none⟩] [0, 1, 2])
  (.seq (.reg [⟨(some 7), .assign (.const (.slice none 0 0)), none⟩] [0, 1, 2, 7])
  (.seq (.seq (.reg [⟨(some 8), .assign (.const (.int .i64 1)), none⟩] [0, 1, 2, 7, 8])
  (.block 0 (.loop impl_statesFor_l0)))
  (.seq (.reg [⟨(some 23), .move (.tmp 7), none⟩,
    ⟨(some 6), .assign (.tmp 23), none⟩] [6])
  .ret))))
theorem impl_statesFor_k : fnOk Try.prog 47 = some (impl_statesFor_c.strip, 24, [.tmp 6]) := by kernel_rfl
/-- loop.example/g01062/spec.l15One: number 48, params [0] -/
def spec_l15One_c : ACode := (.seq (.reg [⟨(some 1), .box 47 (.tmp 0), none⟩,
    ⟨(some 2), .assign (.const (.bool false)), none⟩] [1])
  (.seq (.reg [⟨(some 3), .fieldAddr 47 (.tmp 1) 0, none⟩,
    ⟨(some 4), .load 3 (.tmp 3), none⟩,
    ⟨(some 5), .call ⟨.value (.func 52), #[(.tmp 4), (.const (.int .i64 0)), (.const (.int .i64 9))], #[3, 3, 3]⟩, none⟩,
    ⟨(some 6), .move (.tmp 5), none⟩,
    ⟨(some 7), .fieldAddr 47 (.tmp 1) 1, (some (some 6, true))⟩,
    ⟨(some 8), .load 3 (.tmp 7), (some (some 6, true))⟩,
    ⟨(some 9), .call ⟨.value (.func 52), #[(.tmp 8), (.const (.int .i64 0)), (.const (.int .i64 9))], #[3, 3, 3]⟩, (some (some 6, true))⟩,
    ⟨(some 10), .pick (.tmp 6) (.tmp 9) (.const (.bool false)), none⟩,
    ⟨(some 11), .move (.tmp 10), none⟩,
    ⟨(some 12), .fieldAddr 47 (.tmp 1) 2, (some (some 11, true))⟩,
    ⟨(some 13), .load 3 (.tmp 12), (some (some 11, true))⟩,
    ⟨(some 14), .call ⟨.value (.func 52), #[(.tmp 13), (.const (.int .i64 1)), (.const (.int .i64 99))], #[3, 3, 3]⟩, (some (some 11, true))⟩,
    ⟨(some 15), .pick (.tmp 11) (.tmp 14) (.const (.bool false)), none⟩,
    ⟨(some 16), .move (.tmp 15), none⟩,
    ⟨(some 17), .fieldAddr 47 (.tmp 1) 3, (some (some 16, true))⟩,
    ⟨(some 18), .load 3 (.tmp 17), (some (some 16, true))⟩,
    ⟨(some 19), .call ⟨.value (.func 36), #[(.tmp 18)], #[3]⟩, (some (some 16, true))⟩,
    ⟨(some 20), .pick (.tmp 16) (.tmp 19) (.const (.bool false)), none⟩,
    ⟨(some 2), .assign (.tmp 20), none⟩] [2])
  .ret))
theorem spec_l15One_k : fnOk Try.prog 48 = some (spec_l15One_c.strip, 21, [.tmp 2]) := by kernel_rfl
/-- loop.example/g01062/spec.l15Key: number 49, params [0] -/
def spec_l15Key_c : ACode := (.seq (.reg [⟨(some 1), .box 47 (.tmp 0), none⟩,
    ⟨(some 2), .assign (.const (.int .i64 0)), none⟩] [1])
  (.seq (.reg [⟨(some 3), .fieldAddr 47 (.tmp 1) 0, none⟩,
    ⟨(some 4), .load 3 (.tmp 3), none⟩,
    ⟨(some 5), .binOp .mul 3 (.const (.int .i64 10)) (.tmp 4) 3, none⟩,
    ⟨(some 6), .fieldAddr 47 (.tmp 1) 1, none⟩,
    ⟨(some 7), .load 3 (.tmp 6), none⟩,
    ⟨(some 8), .binOp .add 3 (.tmp 5) (.tmp 7) 3, none⟩,
    ⟨(some 9), .binOp .mul 3 (.const (.int .i64 100)) (.tmp 8) 3, none⟩,
    ⟨(some 10), .fieldAddr 47 (.tmp 1) 2, none⟩,
    ⟨(some 11), .load 3 (.tmp 10), none⟩,
    ⟨(some 12), .binOp .add 3 (.tmp 9) (.tmp 11) 3, none⟩,
    ⟨(some 2), .assign (.tmp 12), none⟩] [2])
  .ret))
theorem spec_l15Key_k : fnOk Try.prog 49 = some (spec_l15Key_c.strip, 13, [.tmp 2]) := by kernel_rfl
/-- loop.example/g01062/impl.isFlaw: number 50, params [0] -/
def impl_isFlaw_c : ACode := (.seq (.reg [⟨(some 1), .box 47 (.tmp 0), none⟩,
    ⟨(some 2), .assign (.const (.bool false)), none⟩] [1])
  (.seq (.reg [⟨(some 3), .fieldAddr 47 (.tmp 1) 0, none⟩,
    ⟨(some 4), .load 3 (.tmp 3), none⟩,
    ⟨(some 5), .call ⟨.value (.func 53), #[(.tmp 4), (.const (.int .i64 0)), (.const (.int .i64 9))], #[3, 3, 3]⟩, none⟩,
    ⟨(some 6), .move (.tmp 5), none⟩,
    ⟨(some 7), .fieldAddr 47 (.tmp 1) 1, (some (some 6, true))⟩,
    ⟨(some 8), .load 3 (.tmp 7), (some (some 6, true))⟩,
    ⟨(some 9), .call ⟨.value (.func 53), #[(.tmp 8), (.const (.int .i64 0)), (.const (.int .i64 9))], #[3, 3, 3]⟩, (some (some 6, true))⟩,
    ⟨(some 10), .pick (.tmp 6) (.tmp 9) (.const (.bool false)), none⟩,
    ⟨(some 11), .move (.tmp 10), none⟩,
    ⟨(some 12), .fieldAddr 47 (.tmp 1) 2, (some (some 11, true))⟩,
    ⟨(some 13), .load 3 (.tmp 12), (some (some 11, true))⟩,
    ⟨(some 14), .call ⟨.value (.func 53), #[(.tmp 13), (.const (.int .i64 1)), (.const (.int .i64 99))], #[3, 3, 3]⟩, (some (some 11, true))⟩,
    ⟨(some 15), .pick (.tmp 11) (.tmp 14) (.const (.bool false)), none⟩,
    ⟨(some 16), .move (.tmp 15), none⟩,
    ⟨(some 17), .fieldAddr 47 (.tmp 1) 3, (some (some 16, true))⟩,
    ⟨(some 18), .load 3 (.tmp 17), (some (some 16, true))⟩,
    ⟨(some 19), .call ⟨.value (.func 38), #[(.tmp 18)], #[3]⟩, (some (some 16, true))⟩,
    ⟨(some 20), .pick (.tmp 16) (.tmp 19) (.const (.bool false)), none⟩,
    ⟨(some 2), .assign (.tmp 20), none⟩] [2])
  .ret))
theorem impl_isFlaw_k : fnOk Try.prog 50 = some (impl_isFlaw_c.strip, 21, [.tmp 2]) := by kernel_rfl
/-- loop.example/g01062/impl.compareFlaws: number 51, params [0, 1] -/
def impl_compareFlaws_c : ACode := (.seq (.reg [⟨(some 2), .box 47 (.tmp 0), none⟩,
    ⟨(some 3), .box 47 (.tmp 1), none⟩,
    ⟨(some 4), .assign (.const (.int .i64 0)), none⟩] [2, 3])
  (.seq (.regT [⟨(some 5), .fieldAddr 47 (.tmp 2) 0, none⟩,
    ⟨(some 6), .load 3 (.tmp 5), none⟩,
    ⟨(some 7), .fieldAddr 47 (.tmp 3) 0, none⟩,
    ⟨(some 8), .load 3 (.tmp 7), none⟩,
    ⟨(some 9), .call ⟨.value (.func 59), #[(.tmp 6), (.tmp 8)], #[3, 3]⟩, none⟩,
    ⟨(some 10), .fieldAddr 47 (.tmp 2) 1, none⟩,
    ⟨(some 11), .load 3 (.tmp 10), none⟩,
    ⟨(some 12), .fieldAddr 47 (.tmp 3) 1, none⟩,
    ⟨(some 13), .load 3 (.tmp 12), none⟩,
    ⟨(some 14), .call ⟨.value (.func 59), #[(.tmp 11), (.tmp 13)], #[3, 3]⟩, none⟩,
    ⟨(some 15), .fieldAddr 47 (.tmp 2) 2, none⟩,
    ⟨(some 16), .load 3 (.tmp 15), none⟩,
    ⟨(some 17), .fieldAddr 47 (.tmp 3) 2, none⟩,
    ⟨(some 18), .load 3 (.tmp 17), none⟩,
    ⟨(some 19), .call ⟨.value (.func 59), #[(.tmp 16), (.tmp 18)], #[3, 3]⟩, none⟩]
    [⟨(some 20), .buildSlice 32 3 #[(0, (.tmp 9)), (1, (.tmp 14)), (2, (.tmp 19))], none⟩,
    ⟨(some 21), .call ⟨.value (.func 58), #[(.tmp 20)], #[32]⟩, none⟩,
    ⟨(some 4), .assign (.tmp 21), none⟩] [4])
  .ret))
theorem impl_compareFlaws_k : fnOk Try.prog 51 = some (impl_compareFlaws_c.strip, 22, [.tmp 4]) := by kernel_rfl
/-- loop.example/g01062/spec.l1In: number 52, params [0, 1, 2] -/
def spec_l1In_c : ACode := (.seq (.reg [⟨(some 6), .assign (.const (.bool false)), none⟩] [0, 1, 2])
  (.seq (.reg [⟨(some 7), .move (.tmp 0), none⟩,
    ⟨(some 8), .move (.tmp 1), none⟩,
    ⟨(some 9), .binOp .geq 3 (.tmp 7) (.tmp 8) 3, none⟩,
    ⟨(some 10), .move (.tmp 9), none⟩,
    ⟨(some 11), .move (.tmp 0), (some (some 10, true))⟩,
    ⟨(some 12), .move (.tmp 2), (some (some 10, true))⟩,
    ⟨(some 13), .binOp .leq 3 (.tmp 11) (.tmp 12) 3, (some (some 10, true))⟩,
    ⟨(some 14), .pick (.tmp 10) (.tmp 13) (.const (.bool false)), none⟩,
    ⟨(some 6), .assign (.tmp 14), none⟩] [6])
  .ret))
theorem spec_l1In_k : fnOk Try.prog 52 = some (spec_l1In_c.strip, 15, [.tmp 6]) := by kernel_rfl
/-- loop.example/g01062/impl.inRange: number 53, params [0, 1, 2] -/
def impl_inRange_c : ACode := (.seq (.reg [⟨(some 6), .assign (.const (.bool false)), none⟩] [0, 1, 2])
  (.seq (.reg [⟨(some 7), .move (.tmp 0), none⟩,
    ⟨(some 8), .move (.tmp 1), none⟩,
    ⟨(some 9), .binOp .geq 3 (.tmp 7) (.tmp 8) 3, none⟩,
    ⟨(some 10), .move (.tmp 9), none⟩,
    ⟨(some 11), .move (.tmp 0), (some (some 10, true))⟩,
    ⟨(some 12), .move (.tmp 2), (some (some 10, true))⟩,
    ⟨(some 13), .binOp .leq 3 (.tmp 11) (.tmp 12) 3, (some (some 10, true))⟩,
    ⟨(some 14), .pick (.tmp 10) (.tmp 13) (.const (.bool false)), none⟩,
    ⟨(some 6), .assign (.tmp 14), none⟩] [6])
  .ret))
theorem impl_inRange_k : fnOk Try.prog 53 = some (impl_inRange_c.strip, 15, [.tmp 6]) := by kernel_rfl
/-- head: [0, 1, 2, 7] -/
def spec_l1Rising_l0 : ACode := (.seq (.seq (.reg [⟨(some 8), .move (.tmp 7), none⟩,
    ⟨(some 9), .move (.tmp 0), none⟩,
    ⟨(some 10), .call ⟨.builtin .len, #[(.tmp 9)], #[32]⟩, none⟩,
    ⟨(some 11), .binOp .lss 3 (.tmp 8) (.tmp 10) 3, none⟩] [0, 1, 2, 7, 11])
  (.cond (.tmp 11) .skip
  (.exit 0)))
  (.seq (.block 1 (.seq (.regQ [⟨(some 14), .move (.tmp 0), none⟩,
    ⟨(some 15), .move (.tmp 7), none⟩,
    ⟨(some 16), .indexAddr 32 (.tmp 14) (.tmp 15), none⟩,
    ⟨(some 17), .load 3 (.tmp 16), none⟩,
    ⟨(some 18), .move (.tmp 1), none⟩,
    ⟨(some 19), .move (.tmp 2), none⟩,
    ⟨(some 20), .call ⟨.value (.func 52), #[(.tmp 17), (.tmp 18), (.tmp 19)], #[3, 3, 3]⟩, none⟩,
    ⟨(some 21), .unOp .not 4 (.tmp 20), none⟩,
    ⟨(some 22), .move (.tmp 21), none⟩,
    ⟨(some 23), .move (.tmp 7), (some (some 22, false))⟩,
    ⟨(some 24), .binOp .gtr 3 (.tmp 23) (.const (.int .i64 0)) 3, (some (some 22, false))⟩,
    ⟨(some 25), .move (.tmp 24), (some (some 22, false))⟩,
    ⟨(some 26), .move (.tmp 0), (some (some 25, true))⟩,
    ⟨(some 27), .move (.tmp 7), (some (some 25, true))⟩,
    ⟨(some 28), .binOp .sub 3 (.tmp 27) (.const (.int .i64 1)) 3, (some (some 25, true))⟩,
    ⟨(some 29), .indexAddr 32 (.tmp 26) (.tmp 28), (some (some 25, true))⟩,
    ⟨(some 30), .load 3 (.tmp 29), (some (some 25, true))⟩,
    ⟨(some 31), .move (.tmp 0), (some (some 25, true))⟩,
    ⟨(some 32), .move (.tmp 7), (some (some 25, true))⟩,
    ⟨(some 33), .indexAddr 32 (.tmp 31) (.tmp 32), (some (some 25, true))⟩,
    ⟨(some 34), .load 3 (.tmp 33), (some (some 25, true))⟩,
    ⟨(some 35), .binOp .geq 3 (.tmp 30) (.tmp 34) 3, (some (some 25, true))⟩,
    ⟨(some 36), .pick (.tmp 25) (.tmp 35) (.const (.bool false)), (some (some 22, false))⟩,
    ⟨(some 37), .pick (.tmp 22) (.const (.bool true)) (.tmp 36), none⟩] [0, 1, 2, 7, 37])
  (.cond (.tmp 37) (.seq (.reg [⟨(some 6), .assign (.const (.bool false)), none⟩] [6])
  .ret)
  .skip)))
  (.reg [⟨(some 12), .move (.tmp 7), none⟩,
    ⟨(some 13), .binOp .add 3 (.tmp 12) (.const (.int .i64 1)) 3, none⟩,
    ⟨(some 7), .assign (.tmp 13), none⟩] [0, 1, 2, 7])))
/-- loop.example/g01062/spec.l1Rising: number 54, params [0, 1, 2] -/
def spec_l1Rising_c : ACode := (.seq (.reg [⟨(some 6), .assign (.const (.bool false)), none⟩] [0, 1, 2])
  (.seq (.seq (.reg [⟨(some 7), .assign (.const (.int .i64 0)), none⟩] [0, 1, 2, 7])
  (.block 0 (.loop spec_l1Rising_l0)))
  (.seq (.reg [⟨(some 6), .assign (.const (.bool true)), none⟩] [6])
  .ret)))
theorem spec_l1Rising_k : fnOk Try.prog 54 = some (spec_l1Rising_c.strip, 38, [.tmp 6]) := by kernel_rfl
/-- head: [0, 3] -/
def impl_ascending_l0 : ACode := (.seq (.seq (.reg [⟨(some 4), .move (.tmp 3), none⟩,
    ⟨(some 5), .move (.tmp 0), none⟩,
    ⟨(some 6), .call ⟨.builtin .len, #[(.tmp 5)], #[32]⟩, none⟩,
    ⟨(some 7), .binOp .lss 3 (.tmp 4) (.tmp 6) 3, none⟩] [0, 3, 7])
  (.cond (.tmp 7) .skip
  (.exit 0)))
  (.seq (.block 1 (.seq (.regQ [⟨(some 10), .move (.tmp 0), none⟩,
    ⟨(some 11), .move (.tmp 3), none⟩,
    ⟨(some 12), .binOp .sub 3 (.tmp 11) (.const (.int .i64 1)) 3, none⟩,
    ⟨(some 13), .indexAddr 32 (.tmp 10) (.tmp 12), none⟩,
    ⟨(some 14), .load 3 (.tmp 13), none⟩,
    ⟨(some 15), .move (.tmp 0), none⟩,
    ⟨(some 16), .move (.tmp 3), none⟩,
    ⟨(some 17), .indexAddr 32 (.tmp 15) (.tmp 16), none⟩,
    ⟨(some 18), .load 3 (.tmp 17), none⟩,
    ⟨(some 19), .binOp .geq 3 (.tmp 14) (.tmp 18) 3, none⟩] [0, 3, 19])
  (.cond (.tmp 19) (.seq (.reg [⟨(some 2), .assign (.const (.bool false)), none⟩] [2])
  .ret)
  .skip)))
  (.reg [⟨(some 8), .move (.tmp 3), none⟩,
    ⟨(some 9), .binOp .add 3 (.tmp 8) (.const (.int .i64 1)) 3, none⟩,
    ⟨(some 3), .assign (.tmp 9), none⟩] [0, 3])))
/-- loop.example/g01062/impl.ascending: number 55, params [0] -/
def impl_ascending_c : ACode := (.seq (.reg [⟨(some 2), .assign (.const (.bool false)), none⟩] [0])
  (.seq (.seq (.reg [⟨(some 3), .assign (.const (.int .i64 1)), none⟩] [0, 3])
  (.block 0 (.loop impl_ascending_l0)))
  (.seq (.reg [⟨(some 2), .assign (.const (.bool true)), none⟩] [2])
  .ret)))
theorem impl_ascending_k : fnOk Try.prog 55 = some (impl_ascending_c.strip, 20, [.tmp 2]) := by kernel_rfl
/-- slices.ContainsFunc[[]int,int]: number 56, params [0, 1] -/
def slices_ContainsFunc___int_int__c : ACode := (.seq (.reg [⟨(some 4), .assign (.const (.bool false)), none⟩] [0, 1])
  (.seq (.reg [⟨(some 5), .move (.tmp 0), none⟩,
    ⟨(some 6), .move (.tmp 1), none⟩,
    ⟨(some 7), .call ⟨.value (.func 60), #[(.tmp 5), (.tmp 6)], #[32, 51]⟩, none⟩,
    ⟨(some 8), .binOp .geq 3 (.tmp 7) (.const (.int .i64 0)) 3, none⟩,
    ⟨(some 4), .assign (.tmp 8), none⟩] [4])
  .ret))
theorem slices_ContainsFunc___int_int__k : fnOk Try.prog 56 = some (slices_ContainsFunc___int_int__c.strip, 9, [.tmp 4]) := by kernel_rfl
/-- loop.example/g01062/impl.areCodes$1: number 57, params [0] -/
def impl_areCodes_1_c : ACode := (.seq (.reg [⟨(some 2), .assign (.const (.bool false)), none⟩] [0])
  (.seq (.reg [⟨(some 3), .move (.tmp 0), none⟩,
    ⟨(some 4), .call ⟨.value (.func 53), #[(.tmp 3), (.const (.int .i64 1)), (.const (.int .i64 99))], #[3, 3, 3]⟩, none⟩,
    ⟨(some 5), .unOp .not 4 (.tmp 4), none⟩,
    ⟨(some 2), .assign (.tmp 5), none⟩] [2])
  .ret))
theorem impl_areCodes_1_k : fnOk Try.prog 57 = some (impl_areCodes_1_c.strip, 6, [.tmp 2]) := by kernel_rfl
/-- head: [3, 6, 7, 8] -/
def cmp_Or_int__l0 : ACode := (.seq (.reg [⟨(some 9), .binOp .lss 3 (.tmp 8) (.tmp 7) 3, none⟩] [3, 6, 7, 8, 9])
  (.seq (.cond (.tmp 9) .skip
  (.exit 0))
  (.seq (.block 1 (.seq (.reg [⟨(some 10), .indexAddr 32 (.tmp 6) (.tmp 8), none⟩,
    ⟨(some 11), .load 3 (.tmp 10), none⟩,
    ⟨(some 5), .assign (.tmp 11), none⟩] [3, 5, 6, 7, 8])
  (.seq (.reg [⟨(some 12), .move (.tmp 5), none⟩,
    ⟨(some 13), .move (.tmp 3), none⟩,
    ⟨(some 14), .binOp .neq 3 (.tmp 12) (.tmp 13) 3, none⟩] [3, 5, 6, 7, 8, 14])
  (.cond (.tmp 14) (.seq (.reg [⟨(some 15), .move (.tmp 5), none⟩,
    ⟨(some 2), .assign (.tmp 15), none⟩] [2])
  .ret)
  .skip))))
  (.reg [⟨(some 16), .binOp .add 3 (.tmp 8) (.const (.int .i64 1)) 3, none⟩,
    ⟨(some 8), .move (.tmp 16), none⟩] [3, 6, 7, 8]))))
/-- cmp.Or[int]: number 58, params [0] -/
def cmp_Or_int__c : ACode := (.seq (.reg [⟨(some 2), .assign (.const (.int .i64 0)), none⟩] [0])
  (.seq (.reg [⟨(some 3), .assign (.const (.int .i64 0)), none⟩] [0, 3])
  (.seq (.seq (.reg [⟨(some 6), .move (.tmp 0), none⟩,
    ⟨(some 7), .call ⟨.builtin .len, #[(.tmp 6)], #[32]⟩, none⟩,
    ⟨(some 8), .move (.const (.int .i64 0)), none⟩] [3, 6, 7, 8])
  (.block 0 (.loop cmp_Or_int__l0)))
  (.seq (.reg [⟨(some 17), .move (.tmp 3), none⟩,
    ⟨(some 2), .assign (.tmp 17), none⟩] [2])
  .ret))))
theorem cmp_Or_int__k : fnOk Try.prog 58 = some (cmp_Or_int__c.strip, 18, [.tmp 2]) := by kernel_rfl
/-- cmp.Compare[int]: number 59, params [0, 1] -/
def cmp_Compare_int__c : ACode := (.seq (.reg [⟨(some 4), .assign (.const (.int .i64 0)), none⟩] [0, 1])
  (.seq (.reg [⟨(some 7), .move (.tmp 0), none⟩,
    ⟨(some 8), .call ⟨.value (.func 61), #[(.tmp 7)], #[3]⟩, none⟩,
    ⟨(some 5), .assign (.tmp 8), none⟩] [0, 1, 5])
  (.seq (.reg [⟨(some 9), .move (.tmp 1), none⟩,
    ⟨(some 10), .call ⟨.value (.func 61), #[(.tmp 9)], #[3]⟩, none⟩,
    ⟨(some 6), .assign (.tmp 10), none⟩] [0, 1, 5, 6])
  (.seq (.seq (.reg [⟨(some 11), .move (.tmp 5), none⟩] [0, 1, 6, 11])
  (.cond (.tmp 11) (.seq (.seq (.reg [⟨(some 12), .move (.tmp 6), none⟩] [12])
  (.cond (.tmp 12) (.seq (.reg [⟨(some 4), .assign (.const (.int .i64 0)), none⟩] [4])
  .ret)
  .skip))
  (.seq (.reg [⟨(some 4), .assign (.const (.int .i64 (-1))), none⟩] [4])
  .ret))
  .skip))
  (.seq (.seq (.reg [⟨(some 13), .move (.tmp 6), none⟩] [0, 1, 13])
  (.cond (.tmp 13) (.seq (.reg [⟨(some 4), .assign (.const (.int .i64 1)), none⟩] [4])
  .ret)
  .skip))
  (.seq (.seq (.reg [⟨(some 14), .move (.tmp 0), none⟩,
    ⟨(some 15), .move (.tmp 1), none⟩,
    ⟨(some 16), .binOp .lss 3 (.tmp 14) (.tmp 15) 3, none⟩] [0, 1, 16])
  (.cond (.tmp 16) (.seq (.reg [⟨(some 4), .assign (.const (.int .i64 (-1))), none⟩] [4])
  .ret)
  .skip))
  (.seq (.seq (.reg [⟨(some 17), .move (.tmp 0), none⟩,
    ⟨(some 18), .move (.tmp 1), none⟩,
    ⟨(some 19), .binOp .gtr 3 (.tmp 17) (.tmp 18) 3, none⟩] [19])
  (.cond (.tmp 19) (.seq (.reg [⟨(some 4), .assign (.const (.int .i64 1)), none⟩] [4])
  .ret)
  .skip))
  (.seq (.reg [⟨(some 4), .assign (.const (.int .i64 0)), none⟩] [4])
  .ret))))))))
theorem cmp_Compare_int__k : fnOk Try.prog 59 = some (cmp_Compare_int__c.strip, 20, [.tmp 4]) := by kernel_rfl
/-- head: [0, 1, 7, 8] -/
def slices_IndexFunc___int_int__l0 : ACode := (.seq (.reg [⟨(some 9), .binOp .lss 3 (.tmp 8) (.tmp 7) 3, none⟩] [0, 1, 7, 8, 9])
  (.seq (.cond (.tmp 9) .skip
  (.exit 0))
  (.seq (.block 1 (.seq (.reg [⟨(some 10), .move (.tmp 8), none⟩,
    ⟨(some 5), .assign (.tmp 10), none⟩] [0, 1, 5, 7, 8])
  (.seq (.reg [⟨(some 11), .move (.tmp 1), none⟩,
    ⟨(some 12), .move (.tmp 0), none⟩,
    ⟨(some 13), .move (.tmp 5), none⟩,
    ⟨(some 14), .indexAddr 32 (.tmp 12) (.tmp 13), none⟩,
    ⟨(some 15), .load 3 (.tmp 14), none⟩,
    ⟨(some 16), .call ⟨.value (.tmp 11), #[(.tmp 15)], #[3]⟩, none⟩] [0, 1, 5, 7, 8, 16])
  (.cond (.tmp 16) (.seq (.reg [⟨(some 17), .move (.tmp 5), none⟩,
    ⟨(some 4), .assign (.tmp 17), none⟩] [4])
  .ret)
  .skip))))
  (.reg [⟨(some 18), .binOp .add 3 (.tmp 8) (.const (.int .i64 1)) 3, none⟩,
    ⟨(some 8), .move (.tmp 18), none⟩] [0, 1, 7, 8]))))
/-- slices.IndexFunc[[]int,int]: number 60, params [0, 1] -/
def slices_IndexFunc___int_int__c : ACode := (.seq (.reg [⟨(some 4), .assign (.const (.int .i64 0)), none⟩] [0, 1])
  (.seq (.seq (.reg [⟨(some 6), .move (.tmp 0), none⟩,
    ⟨(some 7), .call ⟨.builtin .len, #[(.tmp 6)], #[32]⟩, none⟩,
    ⟨(some 8), .move (.const (.int .i64 0)), none⟩] [0, 1, 7, 8])
  (.block 0 (.loop slices_IndexFunc___int_int__l0)))
  (.seq (.reg [⟨(some 4), .assign (.const (.int .i64 (-1))), none⟩] [4])
  .ret)))
theorem slices_IndexFunc___int_int__k : fnOk Try.prog 60 = some (slices_IndexFunc___int_int__c.strip, 19, [.tmp 4]) := by kernel_rfl
/-- cmp.isNaN[int]: number 61, params [0] -/
def cmp_isNaN_int__c : ACode := (.seq (.reg [⟨(some 2), .assign (.const (.bool false)), none⟩] [0])
  (.seq (.reg [⟨(some 3), .move (.tmp 0), none⟩,
    ⟨(some 4), .move (.tmp 0), none⟩,
    ⟨(some 5), .binOp .neq 3 (.tmp 3) (.tmp 4) 3, none⟩,
    ⟨(some 2), .assign (.tmp 5), none⟩] [2])
  .ret))
theorem cmp_isNaN_int__k : fnOk Try.prog 61 = some (cmp_isNaN_int__c.strip, 6, [.tmp 2]) := by kernel_rfl
end Go.Proofs.Ytnbhpdajikmnkaa
