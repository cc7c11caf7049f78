/- Printed by a program of ours: the functions' abstract code and facts on their types. -/
import Derived.Test.YtnbjiigcldmgoaaDoorAbsP
import Derived.Test.YtnbjiigcldmgoaaDoorProg
import Derived.KernelRfl
set_option maxRecDepth 8000
namespace Go.Proofs.YtnbjiigcldmgoaaDoor
open Go Go.RowKit
@[simp] theorem dk_3 : dK Tryd.prog 3 = some (.int .i64) := by kernel_rfl
@[simp] theorem ty_3 : tyK Tryd.prog 3 = some .cell := by kernel_rfl
@[simp] theorem zero_3 : zeroK Tryd.prog 3 = some [.int .i64 0] := by kernel_rfl
@[simp] theorem dk_4 : dK Tryd.prog 4 = some .bool := by kernel_rfl
@[simp] theorem ty_4 : tyK Tryd.prog 4 = some .cell := by kernel_rfl
@[simp] theorem zero_4 : zeroK Tryd.prog 4 = some [.bool false] := by kernel_rfl
@[simp] theorem dk_5 : dK Tryd.prog 5 = some (.int .u8) := by kernel_rfl
@[simp] theorem ty_5 : tyK Tryd.prog 5 = some .cell := by kernel_rfl
@[simp] theorem zero_5 : zeroK Tryd.prog 5 = some [.int .u8 0] := by kernel_rfl
@[simp] theorem dk_9 : dK Tryd.prog 9 = some .str := by kernel_rfl
@[simp] theorem ty_9 : tyK Tryd.prog 9 = some .cell := by kernel_rfl
@[simp] theorem zero_9 : zeroK Tryd.prog 9 = some [.str []] := by kernel_rfl
@[simp] theorem sl_22 : slK Tryd.prog 22 = some (3, 1, 8) := by kernel_rfl
@[simp] theorem dk_22 : dK Tryd.prog 22 = some .slc := by kernel_rfl
@[simp] theorem ty_22 : tyK Tryd.prog 22 = some .cell := by kernel_rfl
@[simp] theorem zero_22 : zeroK Tryd.prog 22 = some [.nils] := by kernel_rfl
@[simp] theorem ty_24 : tyK Tryd.prog 24 = some (.obj 4) := by kernel_rfl
@[simp] theorem fld_24_0 : fldK Tryd.prog 24 0 = some 0 := by kernel_rfl
@[simp] theorem fld_24_1 : fldK Tryd.prog 24 1 = some 1 := by kernel_rfl
@[simp] theorem fld_24_2 : fldK Tryd.prog 24 2 = some 2 := by kernel_rfl
@[simp] theorem fld_24_3 : fldK Tryd.prog 24 3 = some 3 := by kernel_rfl
@[simp] theorem pl_24 : plK Tryd.prog 24 = some (some [(0, 1), (1, 1), (2, 1), (3, 1)]) := by kernel_rfl
@[simp] theorem zero_24 : zeroK Tryd.prog 24 = some [.int .i64 0, .int .i64 0, .str [], .nils] := by kernel_rfl
@[simp] theorem ty_28 : tyK Tryd.prog 28 = some (.obj 4) := by kernel_rfl
@[simp] theorem fld_28_0 : fldK Tryd.prog 28 0 = some 0 := by kernel_rfl
@[simp] theorem fld_28_1 : fldK Tryd.prog 28 1 = some 1 := by kernel_rfl
@[simp] theorem fld_28_2 : fldK Tryd.prog 28 2 = some 2 := by kernel_rfl
@[simp] theorem fld_28_3 : fldK Tryd.prog 28 3 = some 3 := by kernel_rfl
@[simp] theorem pl_28 : plK Tryd.prog 28 = some (some [(0, 1), (1, 1), (2, 1), (3, 1)]) := by kernel_rfl
@[simp] theorem zero_28 : zeroK Tryd.prog 28 = some [.int .i64 0, .int .i64 0, .str [], .nils] := by kernel_rfl
@[simp] theorem sl_37 : slK Tryd.prog 37 = some (28, 4, 56) := by kernel_rfl
@[simp] theorem dk_37 : dK Tryd.prog 37 = some .slc := by kernel_rfl
@[simp] theorem ty_37 : tyK Tryd.prog 37 = some .cell := by kernel_rfl
@[simp] theorem zero_37 : zeroK Tryd.prog 37 = some [.nils] := by kernel_rfl
/-- head: [4, 24, 25, 26] -/
def impl_SightingText_l0 : ACode := (.seq (.reg [⟨(some 27), .binOp .lss 3 (.tmp 26) (.tmp 25) 3, none⟩] [4, 24, 25, 26, 27])
  (.seq (.cond (.tmp 27) .skip
  (.exit 0))
  (.seq (.block 1 (.seq (.reg [⟨(some 28), .indexAddr 22 (.tmp 24) (.tmp 26), none⟩,
    ⟨(some 29), .load 3 (.tmp 28), none⟩,
    ⟨(some 6), .assign (.tmp 29), none⟩] [4, 6, 24, 25, 26])
  (.reg [⟨(some 30), .move (.tmp 4), none⟩,
    ⟨(some 31), .move (.tmp 6), none⟩,
    ⟨(some 32), .call ⟨.value (.func 14), #[(.tmp 31)], #[3]⟩, none⟩,
    ⟨(some 33), .binOp .add 9 (.const (.string ⟨#[32, 35]⟩)) (.tmp 32) 9, none⟩,
    ⟨(some 34), .binOp .add 9 (.tmp 30) (.tmp 33) 9, none⟩,
    ⟨(some 4), .assign (.tmp 34), none⟩] [4, 24, 25, 26])))
  (.reg [⟨(some 35), .binOp .add 3 (.tmp 26) (.const (.int .i64 1)) 3, none⟩,
    ⟨(some 26), .move (.tmp 35), none⟩] [4, 24, 25, 26]))))
/-- loop.example/g01062/impl.SightingText: number 7, params [0] -/
def impl_SightingText_c : ACode := (.seq (.reg [⟨(some 1), .box 28 (.tmp 0), none⟩,
    ⟨(some 2), .assign (.const (.string ⟨#[]⟩)), none⟩,
    ⟨(some 3), .assign (.const (.bool false)), none⟩] [1])
  (.seq (.seq (.reg [⟨(some 7), .load 28 (.tmp 1), none⟩,
    ⟨(some 8), .buildSlice 37 1 #[(0, (.tmp 7))], none⟩,
    ⟨(some 9), .call ⟨.value (.func 13), #[(.tmp 8)], #[37]⟩, none⟩,
    ⟨(some 10), .unOp .not 4 (.tmp 9), none⟩] [1, 10])
  (.cond (.tmp 10) (.seq (.reg [⟨(some 2), .assign (.const (.string ⟨#[]⟩)), none⟩,
    ⟨(some 3), .assign (.const (.bool false)), none⟩] [2, 3])
  .ret)
  .skip))
  (.seq (.regQ [⟨(some 11), .fieldAddr 28 (.tmp 1) 0, none⟩,
    ⟨(some 12), .load 3 (.tmp 11), none⟩,
    ⟨(some 13), .call ⟨.value (.func 14), #[(.tmp 12)], #[3]⟩, none⟩,
    ⟨(some 14), .binOp .add 9 (.tmp 13) (.const (.string ⟨#[32]⟩)) 9, none⟩,
    ⟨(some 15), .fieldAddr 28 (.tmp 1) 2, none⟩,
    ⟨(some 16), .load 9 (.tmp 15), none⟩,
    ⟨(some 17), .binOp .add 9 (.tmp 14) (.tmp 16) 9, none⟩,
    ⟨(some 18), .binOp .add 9 (.tmp 17) (.const (.string ⟨#[32]⟩)) 9, none⟩,
    ⟨(some 19), .fieldAddr 28 (.tmp 1) 1, none⟩,
    ⟨(some 20), .load 3 (.tmp 19), none⟩,
    ⟨(some 21), .call ⟨.value (.func 14), #[(.tmp 20)], #[3]⟩, none⟩,
    ⟨(some 22), .binOp .add 9 (.tmp 18) (.tmp 21) 9, none⟩,
    ⟨(some 4), .assign (.tmp 22), none⟩] [1, 4])
  (.seq (.seq (.reg [⟨(some 23), .fieldAddr 28 (.tmp 1) 3, none⟩,
    ⟨(some 24), .load 22 (.tmp 23), none⟩,
    ⟨(some 25), .call ⟨.builtin .len, #[(.tmp 24)], #[22]⟩, none⟩,
    ⟨(some 26), .move (.const (.int .i64 0)), none⟩] [4, 24, 25, 26])
  (.block 0 (.loop impl_SightingText_l0)))
  (.seq (.reg [⟨(some 36), .move (.tmp 4), none⟩,
    ⟨(some 2), .assign (.tmp 36), none⟩,
    ⟨(some 3), .assign (.const (.bool true)), none⟩] [2, 3])
  .ret)))))
theorem impl_SightingText_k : fnOk Tryd.prog (fun _ => false) 7 = some (impl_SightingText_c.strip, 37, [.tmp 2, .tmp 3]) := by kernel_rfl
/-- head: [0, 7, 8, 9, 58, 59, 60] -/
def impl_areSightings_l0 : ACode := (.seq (.reg [⟨(some 61), .binOp .lss 3 (.tmp 60) (.tmp 59) 3, none⟩] [0, 7, 8, 9, 58, 59, 60, 61])
  (.seq (.cond (.tmp 61) .skip
  (.exit 2))
  (.seq (.block 3 (.seq (.reg [⟨(some 62), .indexAddr 22 (.tmp 58) (.tmp 60), none⟩,
    ⟨(some 63), .load 3 (.tmp 62), none⟩,
    ⟨(some 6), .assign (.tmp 63), none⟩] [0, 6, 7, 8, 9, 58, 59, 60])
  (.seq (.reg [⟨(some 64), .move (.tmp 6), none⟩,
    ⟨(some 65), .call ⟨.value (.func 19), #[(.tmp 64), (.const (.int .i64 1)), (.const (.int .i64 50))], #[3, 3, 3]⟩, none⟩,
    ⟨(some 66), .unOp .not 4 (.tmp 65), none⟩] [0, 7, 8, 9, 58, 59, 60, 66])
  (.cond (.tmp 66) (.seq (.reg [⟨(some 2), .assign (.const (.bool false)), none⟩] [2])
  .ret)
  .skip))))
  (.reg [⟨(some 67), .binOp .add 3 (.tmp 60) (.const (.int .i64 1)) 3, none⟩,
    ⟨(some 60), .move (.tmp 67), none⟩] [0, 7, 8, 9, 58, 59, 60]))))
/-- head: [0, 7, 8, 9] -/
def impl_areSightings_l1 : ACode := (.seq (.reg [⟨(some 10), .binOp .lss 3 (.tmp 9) (.tmp 8) 3, none⟩] [0, 7, 8, 9, 10])
  (.seq (.cond (.tmp 10) .skip
  (.exit 0))
  (.seq (.block 1 (.seq (.reg [⟨(some 11), .move (.tmp 9), none⟩,
    ⟨(some 12), .indexAddr 37 (.tmp 7) (.tmp 9), none⟩,
    ⟨(some 13), .load 28 (.tmp 12), none⟩,
    ⟨(some 4), .alloc 28, none⟩,
    ⟨(some 3), .assign (.tmp 11), none⟩,
    ⟨none, .store 28 (.tmp 4) (.tmp 13), none⟩] [0, 3, 4, 7, 8, 9])
  (.seq (.seq (.regQ [⟨(some 14), .fieldAddr 28 (.tmp 4) 0, none⟩,
    ⟨(some 15), .load 3 (.tmp 14), none⟩,
    ⟨(some 16), .call ⟨.value (.func 19), #[(.tmp 15), (.const (.int .i64 1)), (.const (.int .i64 999))], #[3, 3, 3]⟩, none⟩,
    ⟨(some 17), .unOp .not 4 (.tmp 16), none⟩,
    ⟨(some 18), .move (.tmp 17), none⟩,
    ⟨(some 19), .fieldAddr 28 (.tmp 4) 1, (some (some 18, false))⟩,
    ⟨(some 20), .load 3 (.tmp 19), (some (some 18, false))⟩,
    ⟨(some 21), .call ⟨.value (.func 19), #[(.tmp 20), (.const (.int .i64 1840)), (.const (.int .i64 2100))], #[3, 3, 3]⟩, (some (some 18, false))⟩,
    ⟨(some 22), .unOp .not 4 (.tmp 21), (some (some 18, false))⟩,
    ⟨(some 23), .pick (.tmp 18) (.const (.bool true)) (.tmp 22), none⟩,
    ⟨(some 24), .move (.tmp 23), none⟩,
    ⟨(some 25), .fieldAddr 28 (.tmp 4) 2, (some (some 24, false))⟩,
    ⟨(some 26), .load 9 (.tmp 25), (some (some 24, false))⟩,
    ⟨(some 27), .call ⟨.value (.func 20), #[(.tmp 26)], #[9]⟩, (some (some 24, false))⟩,
    ⟨(some 28), .unOp .not 4 (.tmp 27), (some (some 24, false))⟩,
    ⟨(some 29), .pick (.tmp 24) (.const (.bool true)) (.tmp 28), none⟩,
    ⟨(some 30), .move (.tmp 29), none⟩,
    ⟨(some 31), .fieldAddr 28 (.tmp 4) 3, (some (some 30, false))⟩,
    ⟨(some 32), .load 22 (.tmp 31), (some (some 30, false))⟩,
    ⟨(some 33), .call ⟨.builtin .len, #[(.tmp 32)], #[22]⟩, (some (some 30, false))⟩,
    ⟨(some 34), .binOp .gtr 3 (.tmp 33) (.const (.int .i64 8)) 3, (some (some 30, false))⟩,
    ⟨(some 35), .pick (.tmp 30) (.const (.bool true)) (.tmp 34), none⟩,
    ⟨(some 36), .move (.tmp 35), none⟩,
    ⟨(some 37), .fieldAddr 28 (.tmp 4) 3, (some (some 36, false))⟩,
    ⟨(some 38), .load 22 (.tmp 37), (some (some 36, false))⟩,
    ⟨(some 39), .call ⟨.value (.func 21), #[(.tmp 38)], #[22]⟩, (some (some 36, false))⟩,
    ⟨(some 40), .unOp .not 4 (.tmp 39), (some (some 36, false))⟩,
    ⟨(some 41), .pick (.tmp 36) (.const (.bool true)) (.tmp 40), none⟩,
    ⟨(some 42), .move (.tmp 41), none⟩,
    ⟨(some 43), .move (.tmp 3), (some (some 42, false))⟩,
    ⟨(some 44), .binOp .gtr 3 (.tmp 43) (.const (.int .i64 0)) 3, (some (some 42, false))⟩,
    ⟨(some 45), .move (.tmp 44), (some (some 42, false))⟩,
    ⟨(some 46), .move (.tmp 0), (some (some 45, true))⟩,
    ⟨(some 47), .move (.tmp 3), (some (some 45, true))⟩,
    ⟨(some 48), .binOp .sub 3 (.tmp 47) (.const (.int .i64 1)) 3, (some (some 45, true))⟩,
    ⟨(some 49), .indexAddr 37 (.tmp 46) (.tmp 48), (some (some 45, true))⟩,
    ⟨(some 50), .fieldAddr 28 (.tmp 49) 0, (some (some 45, true))⟩,
    ⟨(some 51), .load 3 (.tmp 50), (some (some 45, true))⟩,
    ⟨(some 52), .fieldAddr 28 (.tmp 4) 0, (some (some 45, true))⟩,
    ⟨(some 53), .load 3 (.tmp 52), (some (some 45, true))⟩,
    ⟨(some 54), .binOp .geq 3 (.tmp 51) (.tmp 53) 3, (some (some 45, true))⟩,
    ⟨(some 55), .pick (.tmp 45) (.tmp 54) (.const (.bool false)), (some (some 42, false))⟩,
    ⟨(some 56), .pick (.tmp 42) (.const (.bool true)) (.tmp 55), none⟩] [0, 4, 7, 8, 9, 56])
  (.cond (.tmp 56) (.seq (.reg [⟨(some 2), .assign (.const (.bool false)), none⟩] [2])
  .ret)
  .skip))
  (.seq (.reg [⟨(some 57), .fieldAddr 28 (.tmp 4) 3, none⟩,
    ⟨(some 58), .load 22 (.tmp 57), none⟩,
    ⟨(some 59), .call ⟨.builtin .len, #[(.tmp 58)], #[22]⟩, none⟩,
    ⟨(some 60), .move (.const (.int .i64 0)), none⟩] [0, 7, 8, 9, 58, 59, 60])
  (.block 2 (.loop impl_areSightings_l0))))))
  (.reg [⟨(some 68), .binOp .add 3 (.tmp 9) (.const (.int .i64 1)) 3, none⟩,
    ⟨(some 9), .move (.tmp 68), none⟩] [0, 7, 8, 9]))))
/-- loop.example/g01062/impl.areSightings: number 13, params [0] -/
def impl_areSightings_c : ACode := (.seq (.reg [⟨(some 2), .assign (.const (.bool false)), none⟩] [0])
  (.seq (.seq (.reg [⟨(some 7), .move (.tmp 0), none⟩,
    ⟨(some 8), .call ⟨.builtin .len, #[(.tmp 7)], #[37]⟩, none⟩,
    ⟨(some 9), .move (.const (.int .i64 0)), none⟩] [0, 7, 8, 9])
  (.block 0 (.loop impl_areSightings_l1)))
  (.seq (.reg [⟨(some 69), .move (.tmp 0), none⟩,
    ⟨(some 70), .call ⟨.builtin .len, #[(.tmp 69)], #[37]⟩, none⟩,
    ⟨(some 71), .binOp .leq 3 (.tmp 70) (.const (.int .i64 10)) 3, none⟩,
    ⟨(some 2), .assign (.tmp 71), none⟩] [2])
  .ret)))
theorem impl_areSightings_k : fnOk Tryd.prog (fun _ => false) 13 = some (impl_areSightings_c.strip, 72, [.tmp 2]) := by kernel_rfl
/-- head: [0, 3] -/
def impl_ascending_l0 : ACode := (.seq (.seq (.reg [⟨(some 4), .move (.tmp 3), none⟩,
    ⟨(some 5), .move (.tmp 0), none⟩,
    ⟨(some 6), .call ⟨.builtin .len, #[(.tmp 5)], #[22]⟩, none⟩,
    ⟨(some 7), .binOp .lss 3 (.tmp 4) (.tmp 6) 3, none⟩] [0, 3, 7])
  (.cond (.tmp 7) .skip
  (.exit 0)))
  (.seq (.block 1 (.seq (.regQ [⟨(some 10), .move (.tmp 0), none⟩,
    ⟨(some 11), .move (.tmp 3), none⟩,
    ⟨(some 12), .binOp .sub 3 (.tmp 11) (.const (.int .i64 1)) 3, none⟩,
    ⟨(some 13), .indexAddr 22 (.tmp 10) (.tmp 12), none⟩,
    ⟨(some 14), .load 3 (.tmp 13), none⟩,
    ⟨(some 15), .move (.tmp 0), none⟩,
    ⟨(some 16), .move (.tmp 3), none⟩,
    ⟨(some 17), .indexAddr 22 (.tmp 15) (.tmp 16), none⟩,
    ⟨(some 18), .load 3 (.tmp 17), none⟩,
    ⟨(some 19), .binOp .geq 3 (.tmp 14) (.tmp 18) 3, none⟩] [0, 3, 19])
  (.cond (.tmp 19) (.seq (.reg [⟨(some 2), .assign (.const (.bool false)), none⟩] [2])
  .ret)
  .skip)))
  (.reg [⟨(some 8), .move (.tmp 3), none⟩,
    ⟨(some 9), .binOp .add 3 (.tmp 8) (.const (.int .i64 1)) 3, none⟩,
    ⟨(some 3), .assign (.tmp 9), none⟩] [0, 3])))
/-- loop.example/g01062/impl.ascending: number 21, params [0] -/
def impl_ascending_c : ACode := (.seq (.reg [⟨(some 2), .assign (.const (.bool false)), none⟩] [0])
  (.seq (.seq (.reg [⟨(some 3), .assign (.const (.int .i64 1)), none⟩] [0, 3])
  (.block 0 (.loop impl_ascending_l0)))
  (.seq (.reg [⟨(some 2), .assign (.const (.bool true)), none⟩] [2])
  .ret)))
theorem impl_ascending_k : fnOk Tryd.prog (fun _ => false) 21 = some (impl_ascending_c.strip, 20, [.tmp 2]) := by kernel_rfl
/-- loop.example/g01062/impl.inRange: number 19, params [0, 1, 2] -/
def impl_inRange_c : ACode := (.seq (.reg [⟨(some 6), .assign (.const (.bool false)), none⟩] [0, 1, 2])
  (.seq (.reg [⟨(some 7), .move (.tmp 0), none⟩,
    ⟨(some 8), .move (.tmp 1), none⟩,
    ⟨(some 9), .binOp .geq 3 (.tmp 7) (.tmp 8) 3, none⟩,
    ⟨(some 10), .move (.tmp 9), none⟩,
    ⟨(some 11), .move (.tmp 0), (some (some 10, true))⟩,
    ⟨(some 12), .move (.tmp 2), (some (some 10, true))⟩,
    ⟨(some 13), .binOp .leq 3 (.tmp 11) (.tmp 12) 3, (some (some 10, true))⟩,
    ⟨(some 14), .pick (.tmp 10) (.tmp 13) (.const (.bool false)), none⟩,
    ⟨(some 6), .assign (.tmp 14), none⟩] [6])
  .ret))
theorem impl_inRange_k : fnOk Tryd.prog (fun _ => false) 19 = some (impl_inRange_c.strip, 15, [.tmp 6]) := by kernel_rfl
/-- head: [0, 5, 6] -/
def impl_isWord_l0 : ACode := (.seq (.reg [⟨(some 7), .binOp .lss 3 (.tmp 6) (.tmp 5) 3, none⟩] [0, 5, 6, 7])
  (.seq (.cond (.tmp 7) .skip
  (.exit 0))
  (.seq (.block 1 (.seq (.reg [⟨(some 8), .move (.tmp 6), none⟩,
    ⟨(some 3), .assign (.tmp 8), none⟩] [0, 3, 5, 6])
  (.seq (.reg [⟨(some 9), .move (.tmp 0), none⟩,
    ⟨(some 10), .move (.tmp 3), none⟩,
    ⟨(some 11), .index 9 (.tmp 9) (.tmp 10), none⟩,
    ⟨(some 12), .binOp .lss 5 (.tmp 11) (.const (.int .u8 97)) 5, none⟩,
    ⟨(some 13), .move (.tmp 12), none⟩,
    ⟨(some 14), .move (.tmp 0), (some (some 13, false))⟩,
    ⟨(some 15), .move (.tmp 3), (some (some 13, false))⟩,
    ⟨(some 16), .index 9 (.tmp 14) (.tmp 15), (some (some 13, false))⟩,
    ⟨(some 17), .binOp .gtr 5 (.tmp 16) (.const (.int .u8 122)) 5, (some (some 13, false))⟩,
    ⟨(some 18), .pick (.tmp 13) (.const (.bool true)) (.tmp 17), none⟩] [0, 5, 6, 18])
  (.cond (.tmp 18) (.seq (.reg [⟨(some 2), .assign (.const (.bool false)), none⟩] [2])
  .ret)
  .skip))))
  (.reg [⟨(some 19), .binOp .add 3 (.tmp 6) (.const (.int .i64 1)) 3, none⟩,
    ⟨(some 6), .move (.tmp 19), none⟩] [0, 5, 6]))))
/-- loop.example/g01062/impl.isWord: number 20, params [0] -/
def impl_isWord_c : ACode := (.seq (.reg [⟨(some 2), .assign (.const (.bool false)), none⟩] [0])
  (.seq (.seq (.reg [⟨(some 4), .move (.tmp 0), none⟩,
    ⟨(some 5), .call ⟨.builtin .len, #[(.tmp 4)], #[9]⟩, none⟩,
    ⟨(some 6), .move (.const (.int .i64 0)), none⟩] [0, 5, 6])
  (.block 0 (.loop impl_isWord_l0)))
  (.seq (.reg [⟨(some 20), .move (.tmp 0), none⟩,
    ⟨(some 21), .call ⟨.builtin .len, #[(.tmp 20)], #[9]⟩, none⟩,
    ⟨(some 22), .call ⟨.value (.func 19), #[(.tmp 21), (.const (.int .i64 1)), (.const (.int .i64 10))], #[3, 3, 3]⟩, none⟩,
    ⟨(some 2), .assign (.tmp 22), none⟩] [2])
  .ret)))
theorem impl_isWord_k : fnOk Tryd.prog (fun _ => false) 20 = some (impl_isWord_c.strip, 23, [.tmp 2]) := by kernel_rfl
/-- loop.example/g01062/laws.FnExactSightingText: number 3, params [0] -/
def laws_FnExactSightingText_c : ACode := (.seq (.reg [⟨(some 1), .box 24 (.tmp 0), none⟩,
    ⟨(some 2), .assign (.const (.bool false)), none⟩] [1])
  (.seq (.reg [⟨(some 3), .assign (.const (.int .i64 1048576)), none⟩] [1, 3])
  (.seq (.reg [⟨(some 9), .load 24 (.tmp 1), none⟩,
    ⟨(some 10), .move (.tmp 3), none⟩,
    ⟨(some 11), .call ⟨.value (.func 4), #[(.tmp 9), (.tmp 10)], #[24, 3]⟩, none⟩,
    ⟨(some 3), .assign (.tmp 11), none⟩] [1, 3])
  (.seq (.seq (.reg [⟨(some 12), .move (.tmp 3), none⟩,
    ⟨(some 13), .binOp .lss 3 (.tmp 12) (.const (.int .i64 0)) 3, none⟩] [1, 13])
  (.cond (.tmp 13) (.seq (.reg [⟨(some 2), .assign (.const (.bool true)), none⟩] [2])
  .ret)
  .skip))
  (.seq (.reg [⟨(some 15), .load 24 (.tmp 1), none⟩,
    ⟨(some 16), .call ⟨.value (.func 6), #[(.tmp 15)], #[24]⟩, none⟩,
    ⟨(some 17), .call ⟨.value (.func 5), #[(.tmp 16)], #[28]⟩, none⟩,
    ⟨(some 14), .move (.tmp 17), none⟩,
    ⟨(some 18), .extract (.tmp 14) 0, none⟩,
    ⟨(some 19), .extract (.tmp 14) 1, none⟩,
    ⟨(some 4), .assign (.tmp 18), none⟩,
    ⟨(some 5), .assign (.tmp 19), none⟩] [1, 4, 5])
  (.seq (.reg [⟨(some 20), .load 24 (.tmp 1), none⟩,
    ⟨(some 21), .call ⟨.value (.func 6), #[(.tmp 20)], #[24]⟩, none⟩,
    ⟨(some 6), .alloc 28, none⟩,
    ⟨none, .store 28 (.tmp 6) (.tmp 21), none⟩] [1, 4, 5, 6])
  (.seq (.reg [⟨(some 23), .load 28 (.tmp 6), none⟩,
    ⟨(some 24), .call ⟨.value (.func 7), #[(.tmp 23)], #[28]⟩, none⟩,
    ⟨(some 22), .move (.tmp 24), none⟩,
    ⟨(some 25), .extract (.tmp 22) 0, none⟩,
    ⟨(some 26), .extract (.tmp 22) 1, none⟩,
    ⟨(some 7), .assign (.tmp 25), none⟩,
    ⟨(some 8), .assign (.tmp 26), none⟩] [1, 4, 5, 6, 7, 8])
  (.seq (.seq (.reg [⟨(some 27), .move (.tmp 7), none⟩,
    ⟨(some 28), .move (.tmp 4), none⟩,
    ⟨(some 29), .binOp .neq 9 (.tmp 27) (.tmp 28) 9, none⟩,
    ⟨(some 30), .move (.tmp 29), none⟩,
    ⟨(some 31), .move (.tmp 8), (some (some 30, false))⟩,
    ⟨(some 32), .move (.tmp 5), (some (some 30, false))⟩,
    ⟨(some 33), .binOp .neq 4 (.tmp 31) (.tmp 32) 4, (some (some 30, false))⟩,
    ⟨(some 34), .pick (.tmp 30) (.const (.bool true)) (.tmp 33), none⟩] [1, 6, 34])
  (.cond (.tmp 34) (.seq (.reg [⟨(some 2), .assign (.const (.bool false)), none⟩] [2])
  .ret)
  .skip))
  (.seq (.seq (.regF []
    [36, 35, 39] [.load 28 (.tmp 6)]
    [⟨(some 36), .load 24 (.tmp 1), none⟩,
    ⟨(some 37), .call ⟨.value (.func 6), #[(.tmp 36)], #[24]⟩, none⟩,
    ⟨(some 35), .load 28 (.tmp 6), none⟩,
    ⟨(some 38), .call ⟨.value (.func 8), #[(.tmp 35), (.tmp 37)], #[28, 28]⟩, none⟩,
    ⟨(some 39), .unOp .not 4 (.tmp 38), none⟩] [39])
  (.cond (.tmp 39) (.seq (.reg [⟨(some 2), .assign (.const (.bool false)), none⟩] [2])
  .ret)
  .skip))
  (.seq (.reg [⟨(some 2), .assign (.const (.bool true)), none⟩] [2])
  .ret))))))))))
theorem laws_FnExactSightingText_k : fnOk Tryd.prog (fun i => i == 10) 3 = some (laws_FnExactSightingText_c.strip, 40, [.tmp 2]) := by kernel_rfl
/-- head: [0, 1, 5] -/
def laws_eqIntS_l0 : ACode := (.seq (.seq (.reg [⟨(some 11), .move (.tmp 5), none⟩,
    ⟨(some 12), .move (.tmp 0), none⟩,
    ⟨(some 13), .call ⟨.builtin .len, #[(.tmp 12)], #[22]⟩, none⟩,
    ⟨(some 14), .binOp .lss 3 (.tmp 11) (.tmp 13) 3, none⟩] [0, 1, 5, 14])
  (.cond (.tmp 14) .skip
  (.exit 0)))
  (.seq (.block 1 (.seq (.regQ [⟨(some 17), .move (.tmp 0), none⟩,
    ⟨(some 18), .move (.tmp 5), none⟩,
    ⟨(some 19), .indexAddr 22 (.tmp 17) (.tmp 18), none⟩,
    ⟨(some 20), .load 3 (.tmp 19), none⟩,
    ⟨(some 21), .move (.tmp 1), none⟩,
    ⟨(some 22), .move (.tmp 5), none⟩,
    ⟨(some 23), .indexAddr 22 (.tmp 21) (.tmp 22), none⟩,
    ⟨(some 24), .load 3 (.tmp 23), none⟩,
    ⟨(some 25), .binOp .neq 3 (.tmp 20) (.tmp 24) 3, none⟩] [0, 1, 5, 25])
  (.cond (.tmp 25) (.seq (.reg [⟨(some 4), .assign (.const (.bool false)), none⟩] [4])
  .ret)
  .skip)))
  (.reg [⟨(some 15), .move (.tmp 5), none⟩,
    ⟨(some 16), .binOp .add 3 (.tmp 15) (.const (.int .i64 1)) 3, none⟩,
    ⟨(some 5), .assign (.tmp 16), none⟩] [0, 1, 5])))
/-- loop.example/g01062/laws.eqIntS: number 15, params [0, 1] -/
def laws_eqIntS_c : ACode := (.seq (.reg [⟨(some 4), .assign (.const (.bool false)), none⟩] [0, 1])
  (.seq (.seq (.reg [⟨(some 6), .move (.tmp 0), none⟩,
    ⟨(some 7), .call ⟨.builtin .len, #[(.tmp 6)], #[22]⟩, none⟩,
    ⟨(some 8), .move (.tmp 1), none⟩,
    ⟨(some 9), .call ⟨.builtin .len, #[(.tmp 8)], #[22]⟩, none⟩,
    ⟨(some 10), .binOp .neq 3 (.tmp 7) (.tmp 9) 3, none⟩] [0, 1, 10])
  (.cond (.tmp 10) (.seq (.reg [⟨(some 4), .assign (.const (.bool false)), none⟩] [4])
  .ret)
  .skip))
  (.seq (.seq (.reg [⟨(some 5), .assign (.const (.int .i64 0)), none⟩] [0, 1, 5])
  (.block 0 (.loop laws_eqIntS_l0)))
  (.seq (.reg [⟨(some 4), .assign (.const (.bool true)), none⟩] [4])
  .ret))))
theorem laws_eqIntS_k : fnOk Tryd.prog (fun _ => false) 15 = some (laws_eqIntS_c.strip, 26, [.tmp 4]) := by kernel_rfl
/-- loop.example/g01062/laws.eqSighting: number 8, params [0, 1] -/
def laws_eqSighting_c : ACode := (.seq (.reg [⟨(some 2), .box 28 (.tmp 0), none⟩,
    ⟨(some 3), .box 28 (.tmp 1), none⟩,
    ⟨(some 4), .assign (.const (.bool false)), none⟩] [2, 3])
  (.seq (.seq (.reg [⟨(some 5), .fieldAddr 28 (.tmp 2) 0, none⟩,
    ⟨(some 6), .load 3 (.tmp 5), none⟩,
    ⟨(some 7), .fieldAddr 28 (.tmp 3) 0, none⟩,
    ⟨(some 8), .load 3 (.tmp 7), none⟩,
    ⟨(some 9), .binOp .neq 3 (.tmp 6) (.tmp 8) 3, none⟩] [2, 3, 9])
  (.cond (.tmp 9) (.seq (.reg [⟨(some 4), .assign (.const (.bool false)), none⟩] [4])
  .ret)
  .skip))
  (.seq (.seq (.reg [⟨(some 10), .fieldAddr 28 (.tmp 2) 1, none⟩,
    ⟨(some 11), .load 3 (.tmp 10), none⟩,
    ⟨(some 12), .fieldAddr 28 (.tmp 3) 1, none⟩,
    ⟨(some 13), .load 3 (.tmp 12), none⟩,
    ⟨(some 14), .binOp .neq 3 (.tmp 11) (.tmp 13) 3, none⟩] [2, 3, 14])
  (.cond (.tmp 14) (.seq (.reg [⟨(some 4), .assign (.const (.bool false)), none⟩] [4])
  .ret)
  .skip))
  (.seq (.seq (.reg [⟨(some 15), .fieldAddr 28 (.tmp 2) 2, none⟩,
    ⟨(some 16), .load 9 (.tmp 15), none⟩,
    ⟨(some 17), .fieldAddr 28 (.tmp 3) 2, none⟩,
    ⟨(some 18), .load 9 (.tmp 17), none⟩,
    ⟨(some 19), .binOp .neq 9 (.tmp 16) (.tmp 18) 9, none⟩] [2, 3, 19])
  (.cond (.tmp 19) (.seq (.reg [⟨(some 4), .assign (.const (.bool false)), none⟩] [4])
  .ret)
  .skip))
  (.seq (.seq (.reg [⟨(some 20), .fieldAddr 28 (.tmp 2) 3, none⟩,
    ⟨(some 21), .load 22 (.tmp 20), none⟩,
    ⟨(some 22), .fieldAddr 28 (.tmp 3) 3, none⟩,
    ⟨(some 23), .load 22 (.tmp 22), none⟩,
    ⟨(some 24), .call ⟨.value (.func 15), #[(.tmp 21), (.tmp 23)], #[22, 22]⟩, none⟩,
    ⟨(some 25), .unOp .not 4 (.tmp 24), none⟩] [25])
  (.cond (.tmp 25) (.seq (.reg [⟨(some 4), .assign (.const (.bool false)), none⟩] [4])
  .ret)
  .skip))
  (.seq (.reg [⟨(some 4), .assign (.const (.bool true)), none⟩] [4])
  .ret))))))
theorem laws_eqSighting_k : fnOk Tryd.prog (fun _ => false) 8 = some (laws_eqSighting_c.strip, 26, [.tmp 4]) := by kernel_rfl
/-- loop.example/g01062/laws.szIntS: number 9, params [0, 1] -/
def laws_szIntS_c : ACode := (.seq (.reg [⟨(some 4), .assign (.const (.int .i64 0)), none⟩] [0, 1])
  (.seq (.reg [⟨(some 5), .move (.tmp 1), none⟩,
    ⟨(some 6), .move (.tmp 0), none⟩,
    ⟨(some 7), .call ⟨.builtin .len, #[(.tmp 6)], #[22]⟩, none⟩,
    ⟨(some 8), .binOp .sub 3 (.tmp 5) (.tmp 7) 3, none⟩,
    ⟨(some 1), .assign (.tmp 8), none⟩] [1])
  (.seq (.seq (.reg [⟨(some 9), .move (.tmp 1), none⟩,
    ⟨(some 10), .binOp .lss 3 (.tmp 9) (.const (.int .i64 0)) 3, none⟩] [1, 10])
  (.cond (.tmp 10) (.seq (.reg [⟨(some 4), .assign (.const (.int .i64 (-1))), none⟩] [4])
  .ret)
  .skip))
  (.seq (.reg [⟨(some 11), .move (.tmp 1), none⟩,
    ⟨(some 4), .assign (.tmp 11), none⟩] [4])
  .ret))))
theorem laws_szIntS_k : fnOk Tryd.prog (fun _ => false) 9 = some (laws_szIntS_c.strip, 12, [.tmp 4]) := by kernel_rfl
/-- loop.example/g01062/laws.szSighting: number 4, params [0, 1] -/
def laws_szSighting_c : ACode := (.seq (.reg [⟨(some 2), .box 24 (.tmp 0), none⟩,
    ⟨(some 4), .assign (.const (.int .i64 0)), none⟩] [1, 2])
  (.seq (.reg [⟨(some 5), .move (.tmp 1), none⟩,
    ⟨(some 6), .fieldAddr 24 (.tmp 2) 2, none⟩,
    ⟨(some 7), .load 9 (.tmp 6), none⟩,
    ⟨(some 8), .call ⟨.builtin .len, #[(.tmp 7)], #[9]⟩, none⟩,
    ⟨(some 9), .binOp .sub 3 (.tmp 5) (.tmp 8) 3, none⟩,
    ⟨(some 1), .assign (.tmp 9), none⟩] [1, 2])
  (.seq (.seq (.reg [⟨(some 10), .move (.tmp 1), none⟩,
    ⟨(some 11), .binOp .lss 3 (.tmp 10) (.const (.int .i64 0)) 3, none⟩] [1, 2, 11])
  (.cond (.tmp 11) (.seq (.reg [⟨(some 4), .assign (.const (.int .i64 (-1))), none⟩] [4])
  .ret)
  .skip))
  (.seq (.reg [⟨(some 12), .fieldAddr 24 (.tmp 2) 3, none⟩,
    ⟨(some 13), .load 22 (.tmp 12), none⟩,
    ⟨(some 14), .move (.tmp 1), none⟩,
    ⟨(some 15), .call ⟨.value (.func 9), #[(.tmp 13), (.tmp 14)], #[22, 3]⟩, none⟩,
    ⟨(some 1), .assign (.tmp 15), none⟩] [1])
  (.seq (.seq (.reg [⟨(some 16), .move (.tmp 1), none⟩,
    ⟨(some 17), .binOp .lss 3 (.tmp 16) (.const (.int .i64 0)) 3, none⟩] [1, 17])
  (.cond (.tmp 17) (.seq (.reg [⟨(some 4), .assign (.const (.int .i64 (-1))), none⟩] [4])
  .ret)
  .skip))
  (.seq (.reg [⟨(some 18), .move (.tmp 1), none⟩,
    ⟨(some 4), .assign (.tmp 18), none⟩] [4])
  .ret))))))
theorem laws_szSighting_k : fnOk Tryd.prog (fun _ => false) 4 = some (laws_szSighting_c.strip, 19, [.tmp 4]) := by kernel_rfl
/-- head: [0, 3, 4] -/
def laws_toIntS_l0 : ACode := (.seq (.seq (.reg [⟨(some 8), .move (.tmp 4), none⟩,
    ⟨(some 9), .move (.tmp 0), none⟩,
    ⟨(some 10), .call ⟨.builtin .len, #[(.tmp 9)], #[22]⟩, none⟩,
    ⟨(some 11), .binOp .lss 3 (.tmp 8) (.tmp 10) 3, none⟩] [0, 3, 4, 11])
  (.cond (.tmp 11) .skip
  (.exit 0)))
  (.seq (.block 1 (.reg [⟨(some 14), .move (.tmp 3), none⟩,
    ⟨(some 15), .move (.tmp 4), none⟩,
    ⟨(some 16), .move (.tmp 0), none⟩,
    ⟨(some 17), .move (.tmp 4), none⟩,
    ⟨(some 18), .indexAddr 22 (.tmp 16) (.tmp 17), none⟩,
    ⟨(some 19), .load 3 (.tmp 18), none⟩,
    ⟨(some 20), .indexAddr 22 (.tmp 14) (.tmp 15), none⟩,
    ⟨none, .store 3 (.tmp 20) (.tmp 19), none⟩] [0, 3, 4]))
  (.reg [⟨(some 12), .move (.tmp 4), none⟩,
    ⟨(some 13), .binOp .add 3 (.tmp 12) (.const (.int .i64 1)) 3, none⟩,
    ⟨(some 4), .assign (.tmp 13), none⟩] [0, 3, 4])))
/-- loop.example/g01062/laws.toIntS: number 12, params [0] -/
def laws_toIntS_c : ACode := (.seq (.reg [⟨(some 2), .assign (.const (.slice none 0 0)), none⟩] [0])
  (.seq (.reg [⟨(some 5), .move (.tmp 0), none⟩,
    ⟨(some 6), .call ⟨.builtin .len, #[(.tmp 5)], #[22]⟩, none⟩,
    ⟨(some 7), .makeSlice 22 (.tmp 6) (.tmp 6), none⟩,
    ⟨(some 3), .assign (.tmp 7), none⟩] [0, 3])
  (.seq (.seq (.reg [⟨(some 4), .assign (.const (.int .i64 0)), none⟩] [0, 3, 4])
  (.block 0 (.loop laws_toIntS_l0)))
  (.seq (.reg [⟨(some 21), .move (.tmp 3), none⟩,
    ⟨(some 2), .assign (.tmp 21), none⟩] [2])
  .ret))))
theorem laws_toIntS_k : fnOk Tryd.prog (fun _ => false) 12 = some (laws_toIntS_c.strip, 22, [.tmp 2]) := by kernel_rfl
/-- loop.example/g01062/laws.toSighting: number 6, params [0] -/
def laws_toSighting_c : ACode := (.seq (.reg [⟨(some 1), .box 24 (.tmp 0), none⟩,
    ⟨(some 2), .alloc 28, none⟩] [1, 2])
  (.seq (.reg [⟨(some 3), .alloc 28, none⟩] [1, 2, 3])
  (.seq (.reg [⟨(some 4), .fieldAddr 24 (.tmp 1) 0, none⟩,
    ⟨(some 5), .load 3 (.tmp 4), none⟩,
    ⟨(some 6), .fieldAddr 28 (.tmp 3) 0, none⟩,
    ⟨none, .store 3 (.tmp 6) (.tmp 5), none⟩] [1, 2, 3])
  (.seq (.reg [⟨(some 7), .fieldAddr 24 (.tmp 1) 1, none⟩,
    ⟨(some 8), .load 3 (.tmp 7), none⟩,
    ⟨(some 9), .fieldAddr 28 (.tmp 3) 1, none⟩,
    ⟨none, .store 3 (.tmp 9) (.tmp 8), none⟩] [1, 2, 3])
  (.seq (.reg [⟨(some 10), .fieldAddr 24 (.tmp 1) 2, none⟩,
    ⟨(some 11), .load 9 (.tmp 10), none⟩,
    ⟨(some 12), .fieldAddr 28 (.tmp 3) 2, none⟩,
    ⟨none, .store 9 (.tmp 12) (.tmp 11), none⟩] [1, 2, 3])
  (.seq (.reg [⟨(some 13), .fieldAddr 24 (.tmp 1) 3, none⟩,
    ⟨(some 14), .load 22 (.tmp 13), none⟩,
    ⟨(some 15), .call ⟨.value (.func 12), #[(.tmp 14)], #[22]⟩, none⟩,
    ⟨(some 16), .fieldAddr 28 (.tmp 3) 3, none⟩,
    ⟨none, .store 22 (.tmp 16) (.tmp 15), none⟩] [2, 3])
  (.seq (.reg [⟨(some 17), .load 28 (.tmp 3), none⟩,
    ⟨none, .store 28 (.tmp 2) (.tmp 17), none⟩] [2])
  .ret)))))))
theorem laws_toSighting_k : fnOk Tryd.prog (fun _ => false) 6 = some (laws_toSighting_c.strip, 18, [.cell 2 28]) := by kernel_rfl
/-- head: [1, 4, 5] -/
def spec_SightingText_l0 : ACode := (.seq (.seq (.reg [⟨(some 21), .move (.tmp 5), none⟩,
    ⟨(some 22), .fieldAddr 28 (.tmp 1) 3, none⟩,
    ⟨(some 23), .load 22 (.tmp 22), none⟩,
    ⟨(some 24), .call ⟨.builtin .len, #[(.tmp 23)], #[22]⟩, none⟩,
    ⟨(some 25), .binOp .lss 3 (.tmp 21) (.tmp 24) 3, none⟩] [1, 4, 5, 25])
  (.cond (.tmp 25) .skip
  (.exit 0)))
  (.seq (.block 1 (.reg [⟨(some 28), .move (.tmp 4), none⟩,
    ⟨(some 29), .binOp .add 9 (.tmp 28) (.const (.string ⟨#[32, 35]⟩)) 9, none⟩,
    ⟨(some 30), .fieldAddr 28 (.tmp 1) 3, none⟩,
    ⟨(some 31), .load 22 (.tmp 30), none⟩,
    ⟨(some 32), .move (.tmp 5), none⟩,
    ⟨(some 33), .indexAddr 22 (.tmp 31) (.tmp 32), none⟩,
    ⟨(some 34), .load 3 (.tmp 33), none⟩,
    ⟨(some 35), .call ⟨.value (.func 11), #[(.tmp 34)], #[3]⟩, none⟩,
    ⟨(some 36), .binOp .add 9 (.tmp 29) (.tmp 35) 9, none⟩,
    ⟨(some 4), .assign (.tmp 36), none⟩] [1, 4, 5]))
  (.reg [⟨(some 26), .move (.tmp 5), none⟩,
    ⟨(some 27), .binOp .add 3 (.tmp 26) (.const (.int .i64 1)) 3, none⟩,
    ⟨(some 5), .assign (.tmp 27), none⟩] [1, 4, 5])))
/-- loop.example/g01062/spec.SightingText: number 5, params [0] -/
def spec_SightingText_c : ACode := (.seq (.reg [⟨(some 1), .box 28 (.tmp 0), none⟩,
    ⟨(some 2), .assign (.const (.string ⟨#[]⟩)), none⟩,
    ⟨(some 3), .assign (.const (.bool false)), none⟩] [1])
  (.seq (.seq (.reg [⟨(some 6), .load 28 (.tmp 1), none⟩,
    ⟨(some 7), .call ⟨.value (.func 10), #[(.tmp 6)], #[28]⟩, none⟩,
    ⟨(some 8), .unOp .not 4 (.tmp 7), none⟩] [1, 8])
  (.cond (.tmp 8) (.seq (.reg [⟨(some 2), .assign (.const (.string ⟨#[]⟩)), none⟩,
    ⟨(some 3), .assign (.const (.bool false)), none⟩] [2, 3])
  .ret)
  .skip))
  (.seq (.regQ [⟨(some 9), .fieldAddr 28 (.tmp 1) 0, none⟩,
    ⟨(some 10), .load 3 (.tmp 9), none⟩,
    ⟨(some 11), .call ⟨.value (.func 11), #[(.tmp 10)], #[3]⟩, none⟩,
    ⟨(some 12), .binOp .add 9 (.tmp 11) (.const (.string ⟨#[32]⟩)) 9, none⟩,
    ⟨(some 13), .fieldAddr 28 (.tmp 1) 2, none⟩,
    ⟨(some 14), .load 9 (.tmp 13), none⟩,
    ⟨(some 15), .binOp .add 9 (.tmp 12) (.tmp 14) 9, none⟩,
    ⟨(some 16), .binOp .add 9 (.tmp 15) (.const (.string ⟨#[32]⟩)) 9, none⟩,
    ⟨(some 17), .fieldAddr 28 (.tmp 1) 1, none⟩,
    ⟨(some 18), .load 3 (.tmp 17), none⟩,
    ⟨(some 19), .call ⟨.value (.func 11), #[(.tmp 18)], #[3]⟩, none⟩,
    ⟨(some 20), .binOp .add 9 (.tmp 16) (.tmp 19) 9, none⟩,
    ⟨(some 4), .assign (.tmp 20), none⟩] [1, 4])
  (.seq (.seq (.reg [⟨(some 5), .assign (.const (.int .i64 0)), none⟩] [1, 4, 5])
  (.block 0 (.loop spec_SightingText_l0)))
  (.seq (.reg [⟨(some 37), .move (.tmp 4), none⟩,
    ⟨(some 2), .assign (.tmp 37), none⟩,
    ⟨(some 3), .assign (.const (.bool true)), none⟩] [2, 3])
  .ret)))))
theorem spec_SightingText_k : fnOk Tryd.prog (fun _ => false) 5 = some (spec_SightingText_c.strip, 38, [.tmp 2, .tmp 3]) := by kernel_rfl
/-- loop.example/g01062/spec.l13One: number 10, params [0] -/
def spec_l13One_c : ACode := (.seq (.reg [⟨(some 1), .box 28 (.tmp 0), none⟩,
    ⟨(some 2), .assign (.const (.bool false)), none⟩] [1])
  (.seq (.reg [⟨(some 3), .fieldAddr 28 (.tmp 1) 0, none⟩,
    ⟨(some 4), .load 3 (.tmp 3), none⟩,
    ⟨(some 5), .call ⟨.value (.func 16), #[(.tmp 4), (.const (.int .i64 1)), (.const (.int .i64 999))], #[3, 3, 3]⟩, none⟩,
    ⟨(some 6), .move (.tmp 5), none⟩,
    ⟨(some 7), .fieldAddr 28 (.tmp 1) 1, (some (some 6, true))⟩,
    ⟨(some 8), .load 3 (.tmp 7), (some (some 6, true))⟩,
    ⟨(some 9), .call ⟨.value (.func 16), #[(.tmp 8), (.const (.int .i64 1840)), (.const (.int .i64 2100))], #[3, 3, 3]⟩, (some (some 6, true))⟩,
    ⟨(some 10), .pick (.tmp 6) (.tmp 9) (.const (.bool false)), none⟩,
    ⟨(some 11), .move (.tmp 10), none⟩,
    ⟨(some 12), .fieldAddr 28 (.tmp 1) 2, (some (some 11, true))⟩,
    ⟨(some 13), .load 9 (.tmp 12), (some (some 11, true))⟩,
    ⟨(some 14), .call ⟨.value (.func 17), #[(.tmp 13)], #[9]⟩, (some (some 11, true))⟩,
    ⟨(some 15), .pick (.tmp 11) (.tmp 14) (.const (.bool false)), none⟩,
    ⟨(some 16), .move (.tmp 15), none⟩,
    ⟨(some 17), .fieldAddr 28 (.tmp 1) 3, (some (some 16, true))⟩,
    ⟨(some 18), .load 22 (.tmp 17), (some (some 16, true))⟩,
    ⟨(some 19), .call ⟨.builtin .len, #[(.tmp 18)], #[22]⟩, (some (some 16, true))⟩,
    ⟨(some 20), .binOp .leq 3 (.tmp 19) (.const (.int .i64 8)) 3, (some (some 16, true))⟩,
    ⟨(some 21), .pick (.tmp 16) (.tmp 20) (.const (.bool false)), none⟩,
    ⟨(some 22), .move (.tmp 21), none⟩,
    ⟨(some 23), .fieldAddr 28 (.tmp 1) 3, (some (some 22, true))⟩,
    ⟨(some 24), .load 22 (.tmp 23), (some (some 22, true))⟩,
    ⟨(some 25), .call ⟨.value (.func 18), #[(.tmp 24), (.const (.int .i64 1)), (.const (.int .i64 50))], #[22, 3, 3]⟩, (some (some 22, true))⟩,
    ⟨(some 26), .pick (.tmp 22) (.tmp 25) (.const (.bool false)), none⟩,
    ⟨(some 2), .assign (.tmp 26), none⟩] [2])
  .ret))
theorem spec_l13One_k : fnOk Tryd.prog (fun _ => false) 10 = some (spec_l13One_c.strip, 27, [.tmp 2]) := by kernel_rfl
/-- loop.example/g01062/spec.l1In: number 16, params [0, 1, 2] -/
def spec_l1In_c : ACode := (.seq (.reg [⟨(some 6), .assign (.const (.bool false)), none⟩] [0, 1, 2])
  (.seq (.reg [⟨(some 7), .move (.tmp 0), none⟩,
    ⟨(some 8), .move (.tmp 1), none⟩,
    ⟨(some 9), .binOp .geq 3 (.tmp 7) (.tmp 8) 3, none⟩,
    ⟨(some 10), .move (.tmp 9), none⟩,
    ⟨(some 11), .move (.tmp 0), (some (some 10, true))⟩,
    ⟨(some 12), .move (.tmp 2), (some (some 10, true))⟩,
    ⟨(some 13), .binOp .leq 3 (.tmp 11) (.tmp 12) 3, (some (some 10, true))⟩,
    ⟨(some 14), .pick (.tmp 10) (.tmp 13) (.const (.bool false)), none⟩,
    ⟨(some 6), .assign (.tmp 14), none⟩] [6])
  .ret))
theorem spec_l1In_k : fnOk Tryd.prog (fun _ => false) 16 = some (spec_l1In_c.strip, 15, [.tmp 6]) := by kernel_rfl
/-- loop.example/g01062/spec.l1Num: number 11, params [0] -/
def spec_l1Num_c : ACode := (.seq (.reg [⟨(some 2), .assign (.const (.string ⟨#[]⟩)), none⟩] [0])
  (.seq (.seq (.reg [⟨(some 3), .move (.tmp 0), none⟩,
    ⟨(some 4), .binOp .lss 3 (.tmp 3) (.const (.int .i64 0)) 3, none⟩] [0, 4])
  (.cond (.tmp 4) (.seq (.reg [⟨(some 5), .move (.tmp 0), none⟩,
    ⟨(some 6), .unOp .neg 3 (.tmp 5), none⟩,
    ⟨(some 7), .call ⟨.value (.func 11), #[(.tmp 6)], #[3]⟩, none⟩,
    ⟨(some 8), .binOp .add 9 (.const (.string ⟨#[45]⟩)) (.tmp 7) 9, none⟩,
    ⟨(some 2), .assign (.tmp 8), none⟩] [2])
  .ret)
  .skip))
  (.seq (.seq (.reg [⟨(some 9), .move (.tmp 0), none⟩,
    ⟨(some 10), .binOp .lss 3 (.tmp 9) (.const (.int .i64 10)) 3, none⟩] [0, 10])
  (.cond (.tmp 10) (.seq (.reg [⟨(some 11), .move (.tmp 0), none⟩,
    ⟨(some 12), .move (.tmp 0), none⟩,
    ⟨(some 13), .binOp .add 3 (.tmp 12) (.const (.int .i64 1)) 3, none⟩,
    ⟨(some 14), .slice 9 (.const (.string ⟨#[48, 49, 50, 51, 52, 53, 54, 55, 56, 57]⟩)) (some (.tmp 11)) (some (.tmp 13)) none, none⟩,
    ⟨(some 2), .assign (.tmp 14), none⟩] [2])
  .ret)
  .skip))
  (.seq (.regQ [⟨(some 15), .move (.tmp 0), none⟩,
    ⟨(some 16), .binOp .quo 3 (.tmp 15) (.const (.int .i64 10)) 3, none⟩,
    ⟨(some 17), .call ⟨.value (.func 11), #[(.tmp 16)], #[3]⟩, none⟩,
    ⟨(some 18), .move (.tmp 0), none⟩,
    ⟨(some 19), .binOp .rem 3 (.tmp 18) (.const (.int .i64 10)) 3, none⟩,
    ⟨(some 20), .move (.tmp 0), none⟩,
    ⟨(some 21), .binOp .rem 3 (.tmp 20) (.const (.int .i64 10)) 3, none⟩,
    ⟨(some 22), .binOp .add 3 (.tmp 21) (.const (.int .i64 1)) 3, none⟩,
    ⟨(some 23), .slice 9 (.const (.string ⟨#[48, 49, 50, 51, 52, 53, 54, 55, 56, 57]⟩)) (some (.tmp 19)) (some (.tmp 22)) none, none⟩,
    ⟨(some 24), .binOp .add 9 (.tmp 17) (.tmp 23) 9, none⟩,
    ⟨(some 2), .assign (.tmp 24), none⟩] [2])
  .ret))))
theorem spec_l1Num_k : fnOk Tryd.prog (fun _ => false) 11 = some (spec_l1Num_c.strip, 25, [.tmp 2]) := by kernel_rfl
/-- head: [0, 1, 2, 7] -/
def spec_l1Rising_l0 : ACode := (.seq (.seq (.reg [⟨(some 8), .move (.tmp 7), none⟩,
    ⟨(some 9), .move (.tmp 0), none⟩,
    ⟨(some 10), .call ⟨.builtin .len, #[(.tmp 9)], #[22]⟩, none⟩,
    ⟨(some 11), .binOp .lss 3 (.tmp 8) (.tmp 10) 3, none⟩] [0, 1, 2, 7, 11])
  (.cond (.tmp 11) .skip
  (.exit 0)))
  (.seq (.block 1 (.seq (.regQ [⟨(some 14), .move (.tmp 0), none⟩,
    ⟨(some 15), .move (.tmp 7), none⟩,
    ⟨(some 16), .indexAddr 22 (.tmp 14) (.tmp 15), none⟩,
    ⟨(some 17), .load 3 (.tmp 16), none⟩,
    ⟨(some 18), .move (.tmp 1), none⟩,
    ⟨(some 19), .move (.tmp 2), none⟩,
    ⟨(some 20), .call ⟨.value (.func 16), #[(.tmp 17), (.tmp 18), (.tmp 19)], #[3, 3, 3]⟩, none⟩,
    ⟨(some 21), .unOp .not 4 (.tmp 20), none⟩,
    ⟨(some 22), .move (.tmp 21), none⟩,
    ⟨(some 23), .move (.tmp 7), (some (some 22, false))⟩,
    ⟨(some 24), .binOp .gtr 3 (.tmp 23) (.const (.int .i64 0)) 3, (some (some 22, false))⟩,
    ⟨(some 25), .move (.tmp 24), (some (some 22, false))⟩,
    ⟨(some 26), .move (.tmp 0), (some (some 25, true))⟩,
    ⟨(some 27), .move (.tmp 7), (some (some 25, true))⟩,
    ⟨(some 28), .binOp .sub 3 (.tmp 27) (.const (.int .i64 1)) 3, (some (some 25, true))⟩,
    ⟨(some 29), .indexAddr 22 (.tmp 26) (.tmp 28), (some (some 25, true))⟩,
    ⟨(some 30), .load 3 (.tmp 29), (some (some 25, true))⟩,
    ⟨(some 31), .move (.tmp 0), (some (some 25, true))⟩,
    ⟨(some 32), .move (.tmp 7), (some (some 25, true))⟩,
    ⟨(some 33), .indexAddr 22 (.tmp 31) (.tmp 32), (some (some 25, true))⟩,
    ⟨(some 34), .load 3 (.tmp 33), (some (some 25, true))⟩,
    ⟨(some 35), .binOp .geq 3 (.tmp 30) (.tmp 34) 3, (some (some 25, true))⟩,
    ⟨(some 36), .pick (.tmp 25) (.tmp 35) (.const (.bool false)), (some (some 22, false))⟩,
    ⟨(some 37), .pick (.tmp 22) (.const (.bool true)) (.tmp 36), none⟩] [0, 1, 2, 7, 37])
  (.cond (.tmp 37) (.seq (.reg [⟨(some 6), .assign (.const (.bool false)), none⟩] [6])
  .ret)
  .skip)))
  (.reg [⟨(some 12), .move (.tmp 7), none⟩,
    ⟨(some 13), .binOp .add 3 (.tmp 12) (.const (.int .i64 1)) 3, none⟩,
    ⟨(some 7), .assign (.tmp 13), none⟩] [0, 1, 2, 7])))
/-- loop.example/g01062/spec.l1Rising: number 18, params [0, 1, 2] -/
def spec_l1Rising_c : ACode := (.seq (.reg [⟨(some 6), .assign (.const (.bool false)), none⟩] [0, 1, 2])
  (.seq (.seq (.reg [⟨(some 7), .assign (.const (.int .i64 0)), none⟩] [0, 1, 2, 7])
  (.block 0 (.loop spec_l1Rising_l0)))
  (.seq (.reg [⟨(some 6), .assign (.const (.bool true)), none⟩] [6])
  .ret)))
theorem spec_l1Rising_k : fnOk Tryd.prog (fun _ => false) 18 = some (spec_l1Rising_c.strip, 38, [.tmp 6]) := by kernel_rfl
/-- head: [0, 3] -/
def spec_l2Word_l0 : ACode := (.seq (.seq (.reg [⟨(some 4), .move (.tmp 3), none⟩,
    ⟨(some 5), .move (.tmp 0), none⟩,
    ⟨(some 6), .call ⟨.builtin .len, #[(.tmp 5)], #[9]⟩, none⟩,
    ⟨(some 7), .binOp .lss 3 (.tmp 4) (.tmp 6) 3, none⟩] [0, 3, 7])
  (.cond (.tmp 7) .skip
  (.exit 0)))
  (.seq (.block 1 (.seq (.reg [⟨(some 10), .move (.tmp 0), none⟩,
    ⟨(some 11), .move (.tmp 3), none⟩,
    ⟨(some 12), .index 9 (.tmp 10) (.tmp 11), none⟩,
    ⟨(some 13), .binOp .lss 5 (.tmp 12) (.const (.int .u8 97)) 5, none⟩,
    ⟨(some 14), .move (.tmp 13), none⟩,
    ⟨(some 15), .move (.tmp 0), (some (some 14, false))⟩,
    ⟨(some 16), .move (.tmp 3), (some (some 14, false))⟩,
    ⟨(some 17), .index 9 (.tmp 15) (.tmp 16), (some (some 14, false))⟩,
    ⟨(some 18), .binOp .gtr 5 (.tmp 17) (.const (.int .u8 122)) 5, (some (some 14, false))⟩,
    ⟨(some 19), .pick (.tmp 14) (.const (.bool true)) (.tmp 18), none⟩] [0, 3, 19])
  (.cond (.tmp 19) (.seq (.reg [⟨(some 2), .assign (.const (.bool false)), none⟩] [2])
  .ret)
  .skip)))
  (.reg [⟨(some 8), .move (.tmp 3), none⟩,
    ⟨(some 9), .binOp .add 3 (.tmp 8) (.const (.int .i64 1)) 3, none⟩,
    ⟨(some 3), .assign (.tmp 9), none⟩] [0, 3])))
/-- loop.example/g01062/spec.l2Word: number 17, params [0] -/
def spec_l2Word_c : ACode := (.seq (.reg [⟨(some 2), .assign (.const (.bool false)), none⟩] [0])
  (.seq (.seq (.reg [⟨(some 3), .assign (.const (.int .i64 0)), none⟩] [0, 3])
  (.block 0 (.loop spec_l2Word_l0)))
  (.seq (.reg [⟨(some 20), .move (.tmp 0), none⟩,
    ⟨(some 21), .call ⟨.builtin .len, #[(.tmp 20)], #[9]⟩, none⟩,
    ⟨(some 22), .call ⟨.value (.func 16), #[(.tmp 21), (.const (.int .i64 1)), (.const (.int .i64 10))], #[3, 3, 3]⟩, none⟩,
    ⟨(some 2), .assign (.tmp 22), none⟩] [2])
  .ret)))
theorem spec_l2Word_k : fnOk Tryd.prog (fun _ => false) 17 = some (spec_l2Word_c.strip, 23, [.tmp 2]) := by kernel_rfl
end Go.Proofs.YtnbjiigcldmgoaaDoor
