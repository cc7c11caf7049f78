/- Printed by a program of ours: the functions' abstract code and facts on their types. -/
import Derived.Test.YticknbohoolhgaaAbsP
import Derived.Test.YticknbohoolhgaaProg
import Derived.KernelRfl
set_option maxRecDepth 8000
namespace Go.Proofs.Yticknbohoolhgaa
open Go Go.RowKit
@[simp] theorem dk_3 : dK Try.prog 3 = some (.int .i64) := by kernel_rfl
@[simp] theorem ty_3 : tyK Try.prog 3 = some .cell := by kernel_rfl
@[simp] theorem zero_3 : zeroK Try.prog 3 = some [.int .i64 0] := by kernel_rfl
@[simp] theorem dk_4 : dK Try.prog 4 = some .bool := by kernel_rfl
@[simp] theorem ty_4 : tyK Try.prog 4 = some .cell := by kernel_rfl
@[simp] theorem zero_4 : zeroK Try.prog 4 = some [.bool false] := by kernel_rfl
@[simp] theorem sl_22 : slK Try.prog 22 = some (62, 5, 40) := by kernel_rfl
@[simp] theorem dk_22 : dK Try.prog 22 = some .slc := by kernel_rfl
@[simp] theorem ty_22 : tyK Try.prog 22 = some .cell := by kernel_rfl
@[simp] theorem zero_22 : zeroK Try.prog 22 = some [.nils] := by kernel_rfl
@[simp] theorem sl_25 : slK Try.prog 25 = some (56, 5, 40) := by kernel_rfl
@[simp] theorem dk_25 : dK Try.prog 25 = some .slc := by kernel_rfl
@[simp] theorem ty_25 : tyK Try.prog 25 = some .cell := by kernel_rfl
@[simp] theorem zero_25 : zeroK Try.prog 25 = some [.nils] := by kernel_rfl
@[simp] theorem ty_56 : tyK Try.prog 56 = some (.obj 5) := by kernel_rfl
@[simp] theorem fld_56_0 : fldK Try.prog 56 0 = some 0 := by kernel_rfl
@[simp] theorem fld_56_1 : fldK Try.prog 56 1 = some 1 := by kernel_rfl
@[simp] theorem fld_56_2 : fldK Try.prog 56 2 = some 2 := by kernel_rfl
@[simp] theorem fld_56_3 : fldK Try.prog 56 3 = some 3 := by kernel_rfl
@[simp] theorem fld_56_4 : fldK Try.prog 56 4 = some 4 := by kernel_rfl
@[simp] theorem pl_56 : plK Try.prog 56 = some (some [(0, 1), (1, 1), (2, 1), (3, 1), (4, 1)]) := by kernel_rfl
@[simp] theorem zero_56 : zeroK Try.prog 56 = some [.int .i64 0, .int .i64 0, .int .i64 0, .int .i64 0, .int .i64 0] := by kernel_rfl
@[simp] theorem ty_62 : tyK Try.prog 62 = some (.obj 5) := by kernel_rfl
@[simp] theorem fld_62_0 : fldK Try.prog 62 0 = some 0 := by kernel_rfl
@[simp] theorem fld_62_1 : fldK Try.prog 62 1 = some 1 := by kernel_rfl
@[simp] theorem fld_62_2 : fldK Try.prog 62 2 = some 2 := by kernel_rfl
@[simp] theorem fld_62_3 : fldK Try.prog 62 3 = some 3 := by kernel_rfl
@[simp] theorem fld_62_4 : fldK Try.prog 62 4 = some 4 := by kernel_rfl
@[simp] theorem pl_62 : plK Try.prog 62 = some (some [(0, 1), (1, 1), (2, 1), (3, 1), (4, 1)]) := by kernel_rfl
@[simp] theorem zero_62 : zeroK Try.prog 62 = some [.int .i64 0, .int .i64 0, .int .i64 0, .int .i64 0, .int .i64 0] := by kernel_rfl
/-- loop.example/g01062/impl.inRange: number 57, params [0, 1, 2] -/
def impl_inRange_c : ACode := (.seq (.reg [⟨(some 6), .assign (.const (.bool false)), none⟩] [0, 1, 2])
  (.seq (.reg [⟨(some 7), .move (.tmp 0), none⟩,
    ⟨(some 8), .move (.tmp 1), none⟩,
    ⟨(some 9), .binOp .geq 3 (.tmp 7) (.tmp 8) 3, none⟩,
    ⟨(some 10), .move (.tmp 9), none⟩,
    ⟨(some 11), .move (.tmp 0), (some (some 10, true))⟩,
    ⟨(some 12), .move (.tmp 2), (some (some 10, true))⟩,
    ⟨(some 13), .binOp .leq 3 (.tmp 11) (.tmp 12) 3, (some (some 10, true))⟩,
    ⟨(some 14), .pick (.tmp 10) (.tmp 13) (.const (.bool false)), none⟩,
    ⟨(some 6), .assign (.tmp 14), none⟩] [6])
  .ret))
theorem impl_inRange_k : fnOk Try.prog 57 = some (impl_inRange_c.strip, 15, [.tmp 6]) := by kernel_rfl
/-- loop.example/g01062/impl.isDay: number 64, params [0] -/
def impl_isDay_c : ACode := (.seq (.reg [⟨(some 2), .assign (.const (.bool false)), none⟩] [0])
  (.seq (.reg [⟨(some 3), .move (.tmp 0), none⟩,
    ⟨(some 4), .call ⟨.value (.func 57), #[(.tmp 3), (.const (.int .i64 0)), (.const (.int .i64 4000))], #[3, 3, 3]⟩, none⟩,
    ⟨(some 2), .assign (.tmp 4), none⟩] [2])
  .ret))
theorem impl_isDay_k : fnOk Try.prog 64 = some (impl_isDay_c.strip, 5, [.tmp 2]) := by kernel_rfl
/-- loop.example/g01062/impl.isPrinting: number 77, params [0] -/
def impl_isPrinting_c : ACode := (.seq (.reg [⟨(some 1), .box 56 (.tmp 0), none⟩,
    ⟨(some 2), .assign (.const (.bool false)), none⟩] [1])
  (.seq (.reg [⟨(some 3), .fieldAddr 56 (.tmp 1) 0, none⟩,
    ⟨(some 4), .load 3 (.tmp 3), none⟩,
    ⟨(some 5), .call ⟨.value (.func 57), #[(.tmp 4), (.const (.int .i64 1)), (.const (.int .i64 99))], #[3, 3, 3]⟩, none⟩,
    ⟨(some 6), .move (.tmp 5), none⟩,
    ⟨(some 7), .fieldAddr 56 (.tmp 1) 1, (some (some 6, true))⟩,
    ⟨(some 8), .load 3 (.tmp 7), (some (some 6, true))⟩,
    ⟨(some 9), .call ⟨.value (.func 64), #[(.tmp 8)], #[3]⟩, (some (some 6, true))⟩,
    ⟨(some 10), .pick (.tmp 6) (.tmp 9) (.const (.bool false)), none⟩,
    ⟨(some 11), .move (.tmp 10), none⟩,
    ⟨(some 12), .fieldAddr 56 (.tmp 1) 2, (some (some 11, true))⟩,
    ⟨(some 13), .load 3 (.tmp 12), (some (some 11, true))⟩,
    ⟨(some 14), .call ⟨.value (.func 57), #[(.tmp 13), (.const (.int .i64 1)), (.const (.int .i64 9999))], #[3, 3, 3]⟩, (some (some 11, true))⟩,
    ⟨(some 15), .pick (.tmp 11) (.tmp 14) (.const (.bool false)), none⟩,
    ⟨(some 16), .move (.tmp 15), none⟩,
    ⟨(some 17), .fieldAddr 56 (.tmp 1) 3, (some (some 16, true))⟩,
    ⟨(some 18), .load 3 (.tmp 17), (some (some 16, true))⟩,
    ⟨(some 19), .call ⟨.value (.func 57), #[(.tmp 18), (.const (.int .i64 0)), (.const (.int .i64 100))], #[3, 3, 3]⟩, (some (some 16, true))⟩,
    ⟨(some 20), .pick (.tmp 16) (.tmp 19) (.const (.bool false)), none⟩,
    ⟨(some 21), .move (.tmp 20), none⟩,
    ⟨(some 22), .fieldAddr 56 (.tmp 1) 4, (some (some 21, true))⟩,
    ⟨(some 23), .load 3 (.tmp 22), (some (some 21, true))⟩,
    ⟨(some 24), .call ⟨.value (.func 57), #[(.tmp 23), (.const (.int .i64 0)), (.const (.int .i64 20))], #[3, 3, 3]⟩, (some (some 21, true))⟩,
    ⟨(some 25), .pick (.tmp 21) (.tmp 24) (.const (.bool false)), none⟩,
    ⟨(some 2), .assign (.tmp 25), none⟩] [2])
  .ret))
theorem impl_isPrinting_k : fnOk Try.prog 77 = some (impl_isPrinting_c.strip, 26, [.tmp 2]) := by kernel_rfl
/-- head: [0, 5, 6, 7] -/
def impl_arePrintings_l0 : ACode := (.seq (.reg [⟨(some 8), .binOp .lss 3 (.tmp 7) (.tmp 6) 3, none⟩] [0, 5, 6, 7, 8])
  (.seq (.cond (.tmp 8) .skip
  (.exit 0))
  (.seq (.block 1 (.seq (.reg [⟨(some 9), .move (.tmp 7), none⟩,
    ⟨(some 10), .indexAddr 25 (.tmp 5) (.tmp 7), none⟩,
    ⟨(some 11), .load 56 (.tmp 10), none⟩,
    ⟨(some 4), .alloc 56, none⟩,
    ⟨(some 3), .assign (.tmp 9), none⟩,
    ⟨none, .store 56 (.tmp 4) (.tmp 11), none⟩] [0, 3, 4, 5, 6, 7])
  (.seq (.regQ [⟨(some 12), .load 56 (.tmp 4), none⟩,
    ⟨(some 13), .call ⟨.value (.func 77), #[(.tmp 12)], #[56]⟩, none⟩,
    ⟨(some 14), .unOp .not 4 (.tmp 13), none⟩,
    ⟨(some 15), .move (.tmp 14), none⟩,
    ⟨(some 16), .move (.tmp 3), (some (some 15, false))⟩,
    ⟨(some 17), .binOp .gtr 3 (.tmp 16) (.const (.int .i64 0)) 3, (some (some 15, false))⟩,
    ⟨(some 18), .move (.tmp 17), (some (some 15, false))⟩,
    ⟨(some 19), .move (.tmp 0), (some (some 18, true))⟩,
    ⟨(some 20), .move (.tmp 3), (some (some 18, true))⟩,
    ⟨(some 21), .binOp .sub 3 (.tmp 20) (.const (.int .i64 1)) 3, (some (some 18, true))⟩,
    ⟨(some 22), .indexAddr 25 (.tmp 19) (.tmp 21), (some (some 18, true))⟩,
    ⟨(some 23), .fieldAddr 56 (.tmp 22) 0, (some (some 18, true))⟩,
    ⟨(some 24), .load 3 (.tmp 23), (some (some 18, true))⟩,
    ⟨(some 25), .fieldAddr 56 (.tmp 4) 0, (some (some 18, true))⟩,
    ⟨(some 26), .load 3 (.tmp 25), (some (some 18, true))⟩,
    ⟨(some 27), .binOp .geq 3 (.tmp 24) (.tmp 26) 3, (some (some 18, true))⟩,
    ⟨(some 28), .move (.tmp 27), (some (some 18, true))⟩,
    ⟨(some 29), .move (.tmp 0), (some (some 28, false))⟩,
    ⟨(some 30), .move (.tmp 3), (some (some 28, false))⟩,
    ⟨(some 31), .binOp .sub 3 (.tmp 30) (.const (.int .i64 1)) 3, (some (some 28, false))⟩,
    ⟨(some 32), .indexAddr 25 (.tmp 29) (.tmp 31), (some (some 28, false))⟩,
    ⟨(some 33), .fieldAddr 56 (.tmp 32) 1, (some (some 28, false))⟩,
    ⟨(some 34), .load 3 (.tmp 33), (some (some 28, false))⟩,
    ⟨(some 35), .fieldAddr 56 (.tmp 4) 1, (some (some 28, false))⟩,
    ⟨(some 36), .load 3 (.tmp 35), (some (some 28, false))⟩,
    ⟨(some 37), .binOp .geq 3 (.tmp 34) (.tmp 36) 3, (some (some 28, false))⟩,
    ⟨(some 38), .pick (.tmp 28) (.const (.bool true)) (.tmp 37), (some (some 18, true))⟩,
    ⟨(some 39), .pick (.tmp 18) (.tmp 38) (.const (.bool false)), (some (some 15, false))⟩,
    ⟨(some 40), .pick (.tmp 15) (.const (.bool true)) (.tmp 39), none⟩] [0, 5, 6, 7, 40])
  (.cond (.tmp 40) (.seq (.reg [⟨(some 2), .assign (.const (.bool false)), none⟩] [2])
  .ret)
  .skip))))
  (.reg [⟨(some 41), .binOp .add 3 (.tmp 7) (.const (.int .i64 1)) 3, none⟩,
    ⟨(some 7), .move (.tmp 41), none⟩] [0, 5, 6, 7]))))
/-- loop.example/g01062/impl.arePrintings: number 54, params [0] -/
def impl_arePrintings_c : ACode := (.seq (.reg [⟨(some 2), .assign (.const (.bool false)), none⟩] [0])
  (.seq (.seq (.reg [⟨(some 5), .move (.tmp 0), none⟩,
    ⟨(some 6), .call ⟨.builtin .len, #[(.tmp 5)], #[25]⟩, none⟩,
    ⟨(some 7), .move (.const (.int .i64 0)), none⟩] [0, 5, 6, 7])
  (.block 0 (.loop impl_arePrintings_l0)))
  (.seq (.reg [⟨(some 42), .move (.tmp 0), none⟩,
    ⟨(some 43), .call ⟨.builtin .len, #[(.tmp 42)], #[25]⟩, none⟩,
    ⟨(some 44), .binOp .leq 3 (.tmp 43) (.const (.int .i64 12)) 3, none⟩,
    ⟨(some 2), .assign (.tmp 44), none⟩] [2])
  .ret)))
theorem impl_arePrintings_k : fnOk Try.prog 54 = some (impl_arePrintings_c.strip, 45, [.tmp 2]) := by kernel_rfl
/-- loop.example/g01062/impl.ArePrintings: number 18, params [0] -/
def impl_ArePrintings_c : ACode := (.seq (.reg [⟨(some 2), .assign (.const (.bool false)), none⟩] [0])
  (.seq (.reg [⟨(some 3), .move (.tmp 0), none⟩,
    ⟨(some 4), .call ⟨.value (.func 54), #[(.tmp 3)], #[25]⟩, none⟩,
    ⟨(some 2), .assign (.tmp 4), none⟩] [2])
  .ret))
theorem impl_ArePrintings_k : fnOk Try.prog 18 = some (impl_ArePrintings_c.strip, 5, [.tmp 2]) := by kernel_rfl
/-- loop.example/g01062/spec.l1In: number 56, params [0, 1, 2] -/
def spec_l1In_c : ACode := (.seq (.reg [⟨(some 6), .assign (.const (.bool false)), none⟩] [0, 1, 2])
  (.seq (.reg [⟨(some 7), .move (.tmp 0), none⟩,
    ⟨(some 8), .move (.tmp 1), none⟩,
    ⟨(some 9), .binOp .geq 3 (.tmp 7) (.tmp 8) 3, none⟩,
    ⟨(some 10), .move (.tmp 9), none⟩,
    ⟨(some 11), .move (.tmp 0), (some (some 10, true))⟩,
    ⟨(some 12), .move (.tmp 2), (some (some 10, true))⟩,
    ⟨(some 13), .binOp .leq 3 (.tmp 11) (.tmp 12) 3, (some (some 10, true))⟩,
    ⟨(some 14), .pick (.tmp 10) (.tmp 13) (.const (.bool false)), none⟩,
    ⟨(some 6), .assign (.tmp 14), none⟩] [6])
  .ret))
theorem spec_l1In_k : fnOk Try.prog 56 = some (spec_l1In_c.strip, 15, [.tmp 6]) := by kernel_rfl
/-- loop.example/g01062/spec.l2Day: number 62, params [0] -/
def spec_l2Day_c : ACode := (.seq (.reg [⟨(some 2), .assign (.const (.bool false)), none⟩] [0])
  (.seq (.reg [⟨(some 3), .move (.tmp 0), none⟩,
    ⟨(some 4), .call ⟨.value (.func 56), #[(.tmp 3), (.const (.int .i64 0)), (.const (.int .i64 4000))], #[3, 3, 3]⟩, none⟩,
    ⟨(some 2), .assign (.tmp 4), none⟩] [2])
  .ret))
theorem spec_l2Day_k : fnOk Try.prog 62 = some (spec_l2Day_c.strip, 5, [.tmp 2]) := by kernel_rfl
/-- loop.example/g01062/spec.l14One: number 76, params [0] -/
def spec_l14One_c : ACode := (.seq (.reg [⟨(some 1), .box 56 (.tmp 0), none⟩,
    ⟨(some 2), .assign (.const (.bool false)), none⟩] [1])
  (.seq (.reg [⟨(some 3), .fieldAddr 56 (.tmp 1) 0, none⟩,
    ⟨(some 4), .load 3 (.tmp 3), none⟩,
    ⟨(some 5), .call ⟨.value (.func 56), #[(.tmp 4), (.const (.int .i64 1)), (.const (.int .i64 99))], #[3, 3, 3]⟩, none⟩,
    ⟨(some 6), .move (.tmp 5), none⟩,
    ⟨(some 7), .fieldAddr 56 (.tmp 1) 1, (some (some 6, true))⟩,
    ⟨(some 8), .load 3 (.tmp 7), (some (some 6, true))⟩,
    ⟨(some 9), .call ⟨.value (.func 62), #[(.tmp 8)], #[3]⟩, (some (some 6, true))⟩,
    ⟨(some 10), .pick (.tmp 6) (.tmp 9) (.const (.bool false)), none⟩,
    ⟨(some 11), .move (.tmp 10), none⟩,
    ⟨(some 12), .fieldAddr 56 (.tmp 1) 2, (some (some 11, true))⟩,
    ⟨(some 13), .load 3 (.tmp 12), (some (some 11, true))⟩,
    ⟨(some 14), .call ⟨.value (.func 56), #[(.tmp 13), (.const (.int .i64 1)), (.const (.int .i64 9999))], #[3, 3, 3]⟩, (some (some 11, true))⟩,
    ⟨(some 15), .pick (.tmp 11) (.tmp 14) (.const (.bool false)), none⟩,
    ⟨(some 16), .move (.tmp 15), none⟩,
    ⟨(some 17), .fieldAddr 56 (.tmp 1) 3, (some (some 16, true))⟩,
    ⟨(some 18), .load 3 (.tmp 17), (some (some 16, true))⟩,
    ⟨(some 19), .call ⟨.value (.func 56), #[(.tmp 18), (.const (.int .i64 0)), (.const (.int .i64 100))], #[3, 3, 3]⟩, (some (some 16, true))⟩,
    ⟨(some 20), .pick (.tmp 16) (.tmp 19) (.const (.bool false)), none⟩,
    ⟨(some 21), .move (.tmp 20), none⟩,
    ⟨(some 22), .fieldAddr 56 (.tmp 1) 4, (some (some 21, true))⟩,
    ⟨(some 23), .load 3 (.tmp 22), (some (some 21, true))⟩,
    ⟨(some 24), .call ⟨.value (.func 56), #[(.tmp 23), (.const (.int .i64 0)), (.const (.int .i64 20))], #[3, 3, 3]⟩, (some (some 21, true))⟩,
    ⟨(some 25), .pick (.tmp 21) (.tmp 24) (.const (.bool false)), none⟩,
    ⟨(some 2), .assign (.tmp 25), none⟩] [2])
  .ret))
theorem spec_l14One_k : fnOk Try.prog 76 = some (spec_l14One_c.strip, 26, [.tmp 2]) := by kernel_rfl
/-- head: [0, 3] -/
def spec_l14Good_l0 : ACode := (.seq (.seq (.reg [⟨(some 4), .move (.tmp 3), none⟩,
    ⟨(some 5), .move (.tmp 0), none⟩,
    ⟨(some 6), .call ⟨.builtin .len, #[(.tmp 5)], #[25]⟩, none⟩,
    ⟨(some 7), .binOp .lss 3 (.tmp 4) (.tmp 6) 3, none⟩] [0, 3, 7])
  (.cond (.tmp 7) .skip
  (.exit 0)))
  (.seq (.block 1 (.seq (.regQ [⟨(some 10), .move (.tmp 0), none⟩,
    ⟨(some 11), .move (.tmp 3), none⟩,
    ⟨(some 12), .indexAddr 25 (.tmp 10) (.tmp 11), none⟩,
    ⟨(some 13), .load 56 (.tmp 12), none⟩,
    ⟨(some 14), .call ⟨.value (.func 76), #[(.tmp 13)], #[56]⟩, none⟩,
    ⟨(some 15), .unOp .not 4 (.tmp 14), none⟩,
    ⟨(some 16), .move (.tmp 15), none⟩,
    ⟨(some 17), .move (.tmp 3), (some (some 16, false))⟩,
    ⟨(some 18), .binOp .gtr 3 (.tmp 17) (.const (.int .i64 0)) 3, (some (some 16, false))⟩,
    ⟨(some 19), .move (.tmp 18), (some (some 16, false))⟩,
    ⟨(some 20), .move (.tmp 0), (some (some 19, true))⟩,
    ⟨(some 21), .move (.tmp 3), (some (some 19, true))⟩,
    ⟨(some 22), .binOp .sub 3 (.tmp 21) (.const (.int .i64 1)) 3, (some (some 19, true))⟩,
    ⟨(some 23), .indexAddr 25 (.tmp 20) (.tmp 22), (some (some 19, true))⟩,
    ⟨(some 24), .fieldAddr 56 (.tmp 23) 0, (some (some 19, true))⟩,
    ⟨(some 25), .load 3 (.tmp 24), (some (some 19, true))⟩,
    ⟨(some 26), .move (.tmp 0), (some (some 19, true))⟩,
    ⟨(some 27), .move (.tmp 3), (some (some 19, true))⟩,
    ⟨(some 28), .indexAddr 25 (.tmp 26) (.tmp 27), (some (some 19, true))⟩,
    ⟨(some 29), .fieldAddr 56 (.tmp 28) 0, (some (some 19, true))⟩,
    ⟨(some 30), .load 3 (.tmp 29), (some (some 19, true))⟩,
    ⟨(some 31), .binOp .geq 3 (.tmp 25) (.tmp 30) 3, (some (some 19, true))⟩,
    ⟨(some 32), .move (.tmp 31), (some (some 19, true))⟩,
    ⟨(some 33), .move (.tmp 0), (some (some 32, false))⟩,
    ⟨(some 34), .move (.tmp 3), (some (some 32, false))⟩,
    ⟨(some 35), .binOp .sub 3 (.tmp 34) (.const (.int .i64 1)) 3, (some (some 32, false))⟩,
    ⟨(some 36), .indexAddr 25 (.tmp 33) (.tmp 35), (some (some 32, false))⟩,
    ⟨(some 37), .fieldAddr 56 (.tmp 36) 1, (some (some 32, false))⟩,
    ⟨(some 38), .load 3 (.tmp 37), (some (some 32, false))⟩,
    ⟨(some 39), .move (.tmp 0), (some (some 32, false))⟩,
    ⟨(some 40), .move (.tmp 3), (some (some 32, false))⟩,
    ⟨(some 41), .indexAddr 25 (.tmp 39) (.tmp 40), (some (some 32, false))⟩,
    ⟨(some 42), .fieldAddr 56 (.tmp 41) 1, (some (some 32, false))⟩,
    ⟨(some 43), .load 3 (.tmp 42), (some (some 32, false))⟩,
    ⟨(some 44), .binOp .geq 3 (.tmp 38) (.tmp 43) 3, (some (some 32, false))⟩,
    ⟨(some 45), .pick (.tmp 32) (.const (.bool true)) (.tmp 44), (some (some 19, true))⟩,
    ⟨(some 46), .pick (.tmp 19) (.tmp 45) (.const (.bool false)), (some (some 16, false))⟩,
    ⟨(some 47), .pick (.tmp 16) (.const (.bool true)) (.tmp 46), none⟩] [0, 3, 47])
  (.cond (.tmp 47) (.seq (.reg [⟨(some 2), .assign (.const (.bool false)), none⟩] [2])
  .ret)
  .skip)))
  (.reg [⟨(some 8), .move (.tmp 3), none⟩,
    ⟨(some 9), .binOp .add 3 (.tmp 8) (.const (.int .i64 1)) 3, none⟩,
    ⟨(some 3), .assign (.tmp 9), none⟩] [0, 3])))
/-- loop.example/g01062/spec.l14Good: number 52, params [0] -/
def spec_l14Good_c : ACode := (.seq (.reg [⟨(some 2), .assign (.const (.bool false)), none⟩] [0])
  (.seq (.seq (.reg [⟨(some 3), .assign (.const (.int .i64 0)), none⟩] [0, 3])
  (.block 0 (.loop spec_l14Good_l0)))
  (.seq (.reg [⟨(some 48), .move (.tmp 0), none⟩,
    ⟨(some 49), .call ⟨.builtin .len, #[(.tmp 48)], #[25]⟩, none⟩,
    ⟨(some 50), .binOp .leq 3 (.tmp 49) (.const (.int .i64 12)) 3, none⟩,
    ⟨(some 2), .assign (.tmp 50), none⟩] [2])
  .ret)))
theorem spec_l14Good_k : fnOk Try.prog 52 = some (spec_l14Good_c.strip, 51, [.tmp 2]) := by kernel_rfl
/-- loop.example/g01062/spec.ArePrintings: number 16, params [0] -/
def spec_ArePrintings_c : ACode := (.seq (.reg [⟨(some 2), .assign (.const (.bool false)), none⟩] [0])
  (.seq (.reg [⟨(some 3), .move (.tmp 0), none⟩,
    ⟨(some 4), .call ⟨.value (.func 52), #[(.tmp 3)], #[25]⟩, none⟩,
    ⟨(some 2), .assign (.tmp 4), none⟩] [2])
  .ret))
theorem spec_ArePrintings_k : fnOk Try.prog 16 = some (spec_ArePrintings_c.strip, 5, [.tmp 2]) := by kernel_rfl
/-- loop.example/g01062/laws.toPrinting: number 53, params [0] -/
def laws_toPrinting_c : ACode := (.seq (.reg [⟨(some 1), .box 62 (.tmp 0), none⟩,
    ⟨(some 2), .alloc 56, none⟩] [1, 2])
  (.seq (.reg [⟨(some 3), .alloc 56, none⟩] [1, 2, 3])
  (.seq (.reg [⟨(some 4), .fieldAddr 62 (.tmp 1) 0, none⟩,
    ⟨(some 5), .load 3 (.tmp 4), none⟩,
    ⟨(some 6), .fieldAddr 56 (.tmp 3) 0, none⟩,
    ⟨none, .store 3 (.tmp 6) (.tmp 5), none⟩] [1, 2, 3])
  (.seq (.reg [⟨(some 7), .fieldAddr 62 (.tmp 1) 1, none⟩,
    ⟨(some 8), .load 3 (.tmp 7), none⟩,
    ⟨(some 9), .fieldAddr 56 (.tmp 3) 1, none⟩,
    ⟨none, .store 3 (.tmp 9) (.tmp 8), none⟩] [1, 2, 3])
  (.seq (.reg [⟨(some 10), .fieldAddr 62 (.tmp 1) 2, none⟩,
    ⟨(some 11), .load 3 (.tmp 10), none⟩,
    ⟨(some 12), .fieldAddr 56 (.tmp 3) 2, none⟩,
    ⟨none, .store 3 (.tmp 12) (.tmp 11), none⟩] [1, 2, 3])
  (.seq (.reg [⟨(some 13), .fieldAddr 62 (.tmp 1) 3, none⟩,
    ⟨(some 14), .load 3 (.tmp 13), none⟩,
    ⟨(some 15), .fieldAddr 56 (.tmp 3) 3, none⟩,
    ⟨none, .store 3 (.tmp 15) (.tmp 14), none⟩] [1, 2, 3])
  (.seq (.reg [⟨(some 16), .fieldAddr 62 (.tmp 1) 4, none⟩,
    ⟨(some 17), .load 3 (.tmp 16), none⟩,
    ⟨(some 18), .fieldAddr 56 (.tmp 3) 4, none⟩,
    ⟨none, .store 3 (.tmp 18) (.tmp 17), none⟩] [2, 3])
  (.seq (.reg [⟨(some 19), .load 56 (.tmp 3), none⟩,
    ⟨none, .store 56 (.tmp 2) (.tmp 19), none⟩] [2])
  .ret))))))))
theorem laws_toPrinting_k : fnOk Try.prog 53 = some (laws_toPrinting_c.strip, 20, [.cell 2 56]) := by kernel_rfl
/-- head: [0, 3, 4] -/
def laws_toPrintingS_l0 : ACode := (.seq (.seq (.reg [⟨(some 8), .move (.tmp 4), none⟩,
    ⟨(some 9), .move (.tmp 0), none⟩,
    ⟨(some 10), .call ⟨.builtin .len, #[(.tmp 9)], #[22]⟩, none⟩,
    ⟨(some 11), .binOp .lss 3 (.tmp 8) (.tmp 10) 3, none⟩] [0, 3, 4, 11])
  (.cond (.tmp 11) .skip
  (.exit 0)))
  (.seq (.block 1 (.reg [⟨(some 14), .move (.tmp 3), none⟩,
    ⟨(some 15), .move (.tmp 4), none⟩,
    ⟨(some 16), .move (.tmp 0), none⟩,
    ⟨(some 17), .move (.tmp 4), none⟩,
    ⟨(some 18), .indexAddr 22 (.tmp 16) (.tmp 17), none⟩,
    ⟨(some 19), .load 62 (.tmp 18), none⟩,
    ⟨(some 20), .call ⟨.value (.func 53), #[(.tmp 19)], #[62]⟩, none⟩,
    ⟨(some 21), .indexAddr 25 (.tmp 14) (.tmp 15), none⟩,
    ⟨none, .store 56 (.tmp 21) (.tmp 20), none⟩] [0, 3, 4]))
  (.reg [⟨(some 12), .move (.tmp 4), none⟩,
    ⟨(some 13), .binOp .add 3 (.tmp 12) (.const (.int .i64 1)) 3, none⟩,
    ⟨(some 4), .assign (.tmp 13), none⟩] [0, 3, 4])))
/-- loop.example/g01062/laws.toPrintingS: number 17, params [0] -/
def laws_toPrintingS_c : ACode := (.seq (.reg [⟨(some 2), .assign (.const (.slice none 0 0)), none⟩] [0])
  (.seq (.reg [⟨(some 5), .move (.tmp 0), none⟩,
    ⟨(some 6), .call ⟨.builtin .len, #[(.tmp 5)], #[22]⟩, none⟩,
    ⟨(some 7), .makeSlice 25 (.tmp 6) (.tmp 6), none⟩,
    ⟨(some 3), .assign (.tmp 7), none⟩] [0, 3])
  (.seq (.seq (.reg [⟨(some 4), .assign (.const (.int .i64 0)), none⟩] [0, 3, 4])
  (.block 0 (.loop laws_toPrintingS_l0)))
  (.seq (.reg [⟨(some 22), .move (.tmp 3), none⟩,
    ⟨(some 2), .assign (.tmp 22), none⟩] [2])
  .ret))))
theorem laws_toPrintingS_k : fnOk Try.prog 17 = some (laws_toPrintingS_c.strip, 23, [.tmp 2]) := by kernel_rfl
/-- loop.example/g01062/laws.szPrintingS: number 15, params [0, 1] -/
def laws_szPrintingS_c : ACode := (.seq (.reg [⟨(some 4), .assign (.const (.int .i64 0)), none⟩] [0, 1])
  (.seq (.reg [⟨(some 5), .move (.tmp 1), none⟩,
    ⟨(some 6), .move (.tmp 0), none⟩,
    ⟨(some 7), .call ⟨.builtin .len, #[(.tmp 6)], #[22]⟩, none⟩,
    ⟨(some 8), .binOp .sub 3 (.tmp 5) (.tmp 7) 3, none⟩,
    ⟨(some 1), .assign (.tmp 8), none⟩] [1])
  (.seq (.seq (.reg [⟨(some 9), .move (.tmp 1), none⟩,
    ⟨(some 10), .binOp .lss 3 (.tmp 9) (.const (.int .i64 0)) 3, none⟩] [1, 10])
  (.cond (.tmp 10) (.seq (.reg [⟨(some 4), .assign (.const (.int .i64 (-1))), none⟩] [4])
  .ret)
  .skip))
  (.seq (.reg [⟨(some 11), .move (.tmp 1), none⟩,
    ⟨(some 4), .assign (.tmp 11), none⟩] [4])
  .ret))))
theorem laws_szPrintingS_k : fnOk Try.prog 15 = some (laws_szPrintingS_c.strip, 12, [.tmp 4]) := by kernel_rfl
/-- loop.example/g01062/laws.eqPrinting: number 55, params [0, 1] -/
def laws_eqPrinting_c : ACode := (.seq (.reg [⟨(some 2), .box 56 (.tmp 0), none⟩,
    ⟨(some 3), .box 56 (.tmp 1), none⟩,
    ⟨(some 4), .assign (.const (.bool false)), none⟩] [2, 3])
  (.seq (.seq (.reg [⟨(some 5), .fieldAddr 56 (.tmp 2) 0, none⟩,
    ⟨(some 6), .load 3 (.tmp 5), none⟩,
    ⟨(some 7), .fieldAddr 56 (.tmp 3) 0, none⟩,
    ⟨(some 8), .load 3 (.tmp 7), none⟩,
    ⟨(some 9), .binOp .neq 3 (.tmp 6) (.tmp 8) 3, none⟩] [2, 3, 9])
  (.cond (.tmp 9) (.seq (.reg [⟨(some 4), .assign (.const (.bool false)), none⟩] [4])
  .ret)
  .skip))
  (.seq (.seq (.reg [⟨(some 10), .fieldAddr 56 (.tmp 2) 1, none⟩,
    ⟨(some 11), .load 3 (.tmp 10), none⟩,
    ⟨(some 12), .fieldAddr 56 (.tmp 3) 1, none⟩,
    ⟨(some 13), .load 3 (.tmp 12), none⟩,
    ⟨(some 14), .binOp .neq 3 (.tmp 11) (.tmp 13) 3, none⟩] [2, 3, 14])
  (.cond (.tmp 14) (.seq (.reg [⟨(some 4), .assign (.const (.bool false)), none⟩] [4])
  .ret)
  .skip))
  (.seq (.seq (.reg [⟨(some 15), .fieldAddr 56 (.tmp 2) 2, none⟩,
    ⟨(some 16), .load 3 (.tmp 15), none⟩,
    ⟨(some 17), .fieldAddr 56 (.tmp 3) 2, none⟩,
    ⟨(some 18), .load 3 (.tmp 17), none⟩,
    ⟨(some 19), .binOp .neq 3 (.tmp 16) (.tmp 18) 3, none⟩] [2, 3, 19])
  (.cond (.tmp 19) (.seq (.reg [⟨(some 4), .assign (.const (.bool false)), none⟩] [4])
  .ret)
  .skip))
  (.seq (.seq (.reg [⟨(some 20), .fieldAddr 56 (.tmp 2) 3, none⟩,
    ⟨(some 21), .load 3 (.tmp 20), none⟩,
    ⟨(some 22), .fieldAddr 56 (.tmp 3) 3, none⟩,
    ⟨(some 23), .load 3 (.tmp 22), none⟩,
    ⟨(some 24), .binOp .neq 3 (.tmp 21) (.tmp 23) 3, none⟩] [2, 3, 24])
  (.cond (.tmp 24) (.seq (.reg [⟨(some 4), .assign (.const (.bool false)), none⟩] [4])
  .ret)
  .skip))
  (.seq (.seq (.reg [⟨(some 25), .fieldAddr 56 (.tmp 2) 4, none⟩,
    ⟨(some 26), .load 3 (.tmp 25), none⟩,
    ⟨(some 27), .fieldAddr 56 (.tmp 3) 4, none⟩,
    ⟨(some 28), .load 3 (.tmp 27), none⟩,
    ⟨(some 29), .binOp .neq 3 (.tmp 26) (.tmp 28) 3, none⟩] [29])
  (.cond (.tmp 29) (.seq (.reg [⟨(some 4), .assign (.const (.bool false)), none⟩] [4])
  .ret)
  .skip))
  (.seq (.reg [⟨(some 4), .assign (.const (.bool true)), none⟩] [4])
  .ret)))))))
theorem laws_eqPrinting_k : fnOk Try.prog 55 = some (laws_eqPrinting_c.strip, 30, [.tmp 4]) := by kernel_rfl
/-- head: [0, 1, 5] -/
def laws_eqPrintingS_l0 : ACode := (.seq (.seq (.reg [⟨(some 11), .move (.tmp 5), none⟩,
    ⟨(some 12), .move (.tmp 0), none⟩,
    ⟨(some 13), .call ⟨.builtin .len, #[(.tmp 12)], #[25]⟩, none⟩,
    ⟨(some 14), .binOp .lss 3 (.tmp 11) (.tmp 13) 3, none⟩] [0, 1, 5, 14])
  (.cond (.tmp 14) .skip
  (.exit 0)))
  (.seq (.block 1 (.seq (.regQ [⟨(some 17), .move (.tmp 0), none⟩,
    ⟨(some 18), .move (.tmp 5), none⟩,
    ⟨(some 19), .indexAddr 25 (.tmp 17) (.tmp 18), none⟩,
    ⟨(some 20), .load 56 (.tmp 19), none⟩,
    ⟨(some 21), .move (.tmp 1), none⟩,
    ⟨(some 22), .move (.tmp 5), none⟩,
    ⟨(some 23), .indexAddr 25 (.tmp 21) (.tmp 22), none⟩,
    ⟨(some 24), .load 56 (.tmp 23), none⟩,
    ⟨(some 25), .call ⟨.value (.func 55), #[(.tmp 20), (.tmp 24)], #[56, 56]⟩, none⟩,
    ⟨(some 26), .unOp .not 4 (.tmp 25), none⟩] [0, 1, 5, 26])
  (.cond (.tmp 26) (.seq (.reg [⟨(some 4), .assign (.const (.bool false)), none⟩] [4])
  .ret)
  .skip)))
  (.reg [⟨(some 15), .move (.tmp 5), none⟩,
    ⟨(some 16), .binOp .add 3 (.tmp 15) (.const (.int .i64 1)) 3, none⟩,
    ⟨(some 5), .assign (.tmp 16), none⟩] [0, 1, 5])))
/-- loop.example/g01062/laws.eqPrintingS: number 19, params [0, 1] -/
def laws_eqPrintingS_c : ACode := (.seq (.reg [⟨(some 4), .assign (.const (.bool false)), none⟩] [0, 1])
  (.seq (.seq (.reg [⟨(some 6), .move (.tmp 0), none⟩,
    ⟨(some 7), .call ⟨.builtin .len, #[(.tmp 6)], #[25]⟩, none⟩,
    ⟨(some 8), .move (.tmp 1), none⟩,
    ⟨(some 9), .call ⟨.builtin .len, #[(.tmp 8)], #[25]⟩, none⟩,
    ⟨(some 10), .binOp .neq 3 (.tmp 7) (.tmp 9) 3, none⟩] [0, 1, 10])
  (.cond (.tmp 10) (.seq (.reg [⟨(some 4), .assign (.const (.bool false)), none⟩] [4])
  .ret)
  .skip))
  (.seq (.seq (.reg [⟨(some 5), .assign (.const (.int .i64 0)), none⟩] [0, 1, 5])
  (.block 0 (.loop laws_eqPrintingS_l0)))
  (.seq (.reg [⟨(some 4), .assign (.const (.bool true)), none⟩] [4])
  .ret))))
theorem laws_eqPrintingS_k : fnOk Try.prog 19 = some (laws_eqPrintingS_c.strip, 27, [.tmp 4]) := by kernel_rfl
/-- loop.example/g01062/laws.FnExactArePrintings: number 3, params [0] -/
def laws_FnExactArePrintings_c : ACode := (.seq (.reg [⟨(some 2), .assign (.const (.bool false)), none⟩] [0])
  (.seq (.reg [⟨(some 3), .assign (.const (.int .i64 1048576)), none⟩] [0, 3])
  (.seq (.reg [⟨(some 7), .move (.tmp 0), none⟩,
    ⟨(some 8), .move (.tmp 3), none⟩,
    ⟨(some 9), .call ⟨.value (.func 15), #[(.tmp 7), (.tmp 8)], #[22, 3]⟩, none⟩,
    ⟨(some 3), .assign (.tmp 9), none⟩] [0, 3])
  (.seq (.seq (.reg [⟨(some 10), .move (.tmp 3), none⟩,
    ⟨(some 11), .binOp .lss 3 (.tmp 10) (.const (.int .i64 0)) 3, none⟩] [0, 11])
  (.cond (.tmp 11) (.seq (.reg [⟨(some 2), .assign (.const (.bool true)), none⟩] [2])
  .ret)
  .skip))
  (.seq (.reg [⟨(some 12), .move (.tmp 0), none⟩,
    ⟨(some 13), .call ⟨.value (.func 17), #[(.tmp 12)], #[22]⟩, none⟩,
    ⟨(some 14), .call ⟨.value (.func 16), #[(.tmp 13)], #[25]⟩, none⟩,
    ⟨(some 4), .assign (.tmp 14), none⟩] [0, 4])
  (.seq (.reg [⟨(some 15), .move (.tmp 0), none⟩,
    ⟨(some 16), .call ⟨.value (.func 17), #[(.tmp 15)], #[22]⟩, none⟩,
    ⟨(some 5), .assign (.tmp 16), none⟩] [0, 4, 5])
  (.seq (.reg [⟨(some 17), .move (.tmp 5), none⟩,
    ⟨(some 18), .call ⟨.value (.func 18), #[(.tmp 17)], #[25]⟩, none⟩,
    ⟨(some 6), .assign (.tmp 18), none⟩] [0, 4, 5, 6])
  (.seq (.seq (.reg [⟨(some 19), .move (.tmp 6), none⟩,
    ⟨(some 20), .move (.tmp 4), none⟩,
    ⟨(some 21), .binOp .neq 4 (.tmp 19) (.tmp 20) 4, none⟩] [0, 5, 21])
  (.cond (.tmp 21) (.seq (.reg [⟨(some 2), .assign (.const (.bool false)), none⟩] [2])
  .ret)
  .skip))
  (.seq (.seq (.reg [⟨(some 22), .move (.tmp 5), none⟩,
    ⟨(some 23), .move (.tmp 0), none⟩,
    ⟨(some 24), .call ⟨.value (.func 17), #[(.tmp 23)], #[22]⟩, none⟩,
    ⟨(some 25), .call ⟨.value (.func 19), #[(.tmp 22), (.tmp 24)], #[25, 25]⟩, none⟩,
    ⟨(some 26), .unOp .not 4 (.tmp 25), none⟩] [26])
  (.cond (.tmp 26) (.seq (.reg [⟨(some 2), .assign (.const (.bool false)), none⟩] [2])
  .ret)
  .skip))
  (.seq (.reg [⟨(some 2), .assign (.const (.bool true)), none⟩] [2])
  .ret))))))))))
theorem laws_FnExactArePrintings_k : fnOk Try.prog 3 = some (laws_FnExactArePrintings_c.strip, 27, [.tmp 2]) := by kernel_rfl
end Go.Proofs.Yticknbohoolhgaa
