/- Printed by a program of ours: the functions' abstract code and facts on their types. -/
import Derived.Test.YticknbohoolhgaaDoorAbsP
import Derived.Test.YticknbohoolhgaaDoorProg
import Derived.KernelRfl
set_option maxRecDepth 8000
namespace Go.Proofs.YticknbohoolhgaaDoor
open Go Go.RowKit
@[simp] theorem dk_3 : dK Tryd.prog 3 = some (.int .i64) := by kernel_rfl
@[simp] theorem ty_3 : tyK Tryd.prog 3 = some .cell := by kernel_rfl
@[simp] theorem zero_3 : zeroK Tryd.prog 3 = some [.int .i64 0] := by kernel_rfl
@[simp] theorem dk_4 : dK Tryd.prog 4 = some .bool := by kernel_rfl
@[simp] theorem ty_4 : tyK Tryd.prog 4 = some .cell := by kernel_rfl
@[simp] theorem zero_4 : zeroK Tryd.prog 4 = some [.bool false] := by kernel_rfl
@[simp] theorem dk_9 : dK Tryd.prog 9 = some .str := by kernel_rfl
@[simp] theorem ty_9 : tyK Tryd.prog 9 = some .cell := by kernel_rfl
@[simp] theorem zero_9 : zeroK Tryd.prog 9 = some [.str []] := by kernel_rfl
@[simp] theorem ty_23 : tyK Tryd.prog 23 = some (.obj 5) := by kernel_rfl
@[simp] theorem fld_23_0 : fldK Tryd.prog 23 0 = some 0 := by kernel_rfl
@[simp] theorem fld_23_1 : fldK Tryd.prog 23 1 = some 1 := by kernel_rfl
@[simp] theorem fld_23_2 : fldK Tryd.prog 23 2 = some 2 := by kernel_rfl
@[simp] theorem fld_23_3 : fldK Tryd.prog 23 3 = some 3 := by kernel_rfl
@[simp] theorem fld_23_4 : fldK Tryd.prog 23 4 = some 4 := by kernel_rfl
@[simp] theorem pl_23 : plK Tryd.prog 23 = some (some [(0, 1), (1, 1), (2, 1), (3, 1), (4, 1)]) := by kernel_rfl
@[simp] theorem zero_23 : zeroK Tryd.prog 23 = some [.int .i64 0, .int .i64 0, .int .i64 0, .int .i64 0, .int .i64 0] := by kernel_rfl
@[simp] theorem ty_26 : tyK Tryd.prog 26 = some (.obj 5) := by kernel_rfl
@[simp] theorem fld_26_0 : fldK Tryd.prog 26 0 = some 0 := by kernel_rfl
@[simp] theorem fld_26_1 : fldK Tryd.prog 26 1 = some 1 := by kernel_rfl
@[simp] theorem fld_26_2 : fldK Tryd.prog 26 2 = some 2 := by kernel_rfl
@[simp] theorem fld_26_3 : fldK Tryd.prog 26 3 = some 3 := by kernel_rfl
@[simp] theorem fld_26_4 : fldK Tryd.prog 26 4 = some 4 := by kernel_rfl
@[simp] theorem pl_26 : plK Tryd.prog 26 = some (some [(0, 1), (1, 1), (2, 1), (3, 1), (4, 1)]) := by kernel_rfl
@[simp] theorem zero_26 : zeroK Tryd.prog 26 = some [.int .i64 0, .int .i64 0, .int .i64 0, .int .i64 0, .int .i64 0] := by kernel_rfl
/-- loop.example/g01062/impl.inRange: number 51, params [0, 1, 2] -/
def impl_inRange_c : ACode := (.seq (.reg [⟨(some 6), .assign (.const (.bool false)), none⟩] [0, 1, 2])
  (.seq (.reg [⟨(some 7), .move (.tmp 0), none⟩,
    ⟨(some 8), .move (.tmp 1), none⟩,
    ⟨(some 9), .binOp .geq 3 (.tmp 7) (.tmp 8) 3, none⟩,
    ⟨(some 10), .move (.tmp 9), none⟩,
    ⟨(some 11), .move (.tmp 0), (some (some 10, true))⟩,
    ⟨(some 12), .move (.tmp 2), (some (some 10, true))⟩,
    ⟨(some 13), .binOp .leq 3 (.tmp 11) (.tmp 12) 3, (some (some 10, true))⟩,
    ⟨(some 14), .pick (.tmp 10) (.tmp 13) (.const (.bool false)), none⟩,
    ⟨(some 6), .assign (.tmp 14), none⟩] [6])
  .ret))
theorem impl_inRange_k : fnOk Tryd.prog 51 = some (impl_inRange_c.strip, 15, [.tmp 6]) := by kernel_rfl
/-- loop.example/g01062/spec.l1In: number 52, params [0, 1, 2] -/
def spec_l1In_c : ACode := (.seq (.reg [⟨(some 6), .assign (.const (.bool false)), none⟩] [0, 1, 2])
  (.seq (.reg [⟨(some 7), .move (.tmp 0), none⟩,
    ⟨(some 8), .move (.tmp 1), none⟩,
    ⟨(some 9), .binOp .geq 3 (.tmp 7) (.tmp 8) 3, none⟩,
    ⟨(some 10), .move (.tmp 9), none⟩,
    ⟨(some 11), .move (.tmp 0), (some (some 10, true))⟩,
    ⟨(some 12), .move (.tmp 2), (some (some 10, true))⟩,
    ⟨(some 13), .binOp .leq 3 (.tmp 11) (.tmp 12) 3, (some (some 10, true))⟩,
    ⟨(some 14), .pick (.tmp 10) (.tmp 13) (.const (.bool false)), none⟩,
    ⟨(some 6), .assign (.tmp 14), none⟩] [6])
  .ret))
theorem spec_l1In_k : fnOk Tryd.prog 52 = some (spec_l1In_c.strip, 15, [.tmp 6]) := by kernel_rfl
/-- loop.example/g01062/impl.isDay: number 39, params [0] -/
def impl_isDay_c : ACode := (.seq (.reg [⟨(some 2), .assign (.const (.bool false)), none⟩] [0])
  (.seq (.reg [⟨(some 3), .move (.tmp 0), none⟩,
    ⟨(some 4), .call ⟨.value (.func 51), #[(.tmp 3), (.const (.int .i64 0)), (.const (.int .i64 4000))], #[3, 3, 3]⟩, none⟩,
    ⟨(some 2), .assign (.tmp 4), none⟩] [2])
  .ret))
theorem impl_isDay_k : fnOk Tryd.prog 39 = some (impl_isDay_c.strip, 5, [.tmp 2]) := by kernel_rfl
/-- loop.example/g01062/spec.l2Day: number 53, params [0] -/
def spec_l2Day_c : ACode := (.seq (.reg [⟨(some 2), .assign (.const (.bool false)), none⟩] [0])
  (.seq (.reg [⟨(some 3), .move (.tmp 0), none⟩,
    ⟨(some 4), .call ⟨.value (.func 52), #[(.tmp 3), (.const (.int .i64 0)), (.const (.int .i64 4000))], #[3, 3, 3]⟩, none⟩,
    ⟨(some 2), .assign (.tmp 4), none⟩] [2])
  .ret))
theorem spec_l2Day_k : fnOk Tryd.prog 53 = some (spec_l2Day_c.strip, 5, [.tmp 2]) := by kernel_rfl
/-- loop.example/g01062/impl.isPrinting: number 29, params [0] -/
def impl_isPrinting_c : ACode := (.seq (.reg [⟨(some 1), .box 26 (.tmp 0), none⟩,
    ⟨(some 2), .assign (.const (.bool false)), none⟩] [1])
  (.seq (.reg [⟨(some 3), .fieldAddr 26 (.tmp 1) 0, none⟩,
    ⟨(some 4), .load 3 (.tmp 3), none⟩,
    ⟨(some 5), .call ⟨.value (.func 51), #[(.tmp 4), (.const (.int .i64 1)), (.const (.int .i64 99))], #[3, 3, 3]⟩, none⟩,
    ⟨(some 6), .move (.tmp 5), none⟩,
    ⟨(some 7), .fieldAddr 26 (.tmp 1) 1, (some (some 6, true))⟩,
    ⟨(some 8), .load 3 (.tmp 7), (some (some 6, true))⟩,
    ⟨(some 9), .call ⟨.value (.func 39), #[(.tmp 8)], #[3]⟩, (some (some 6, true))⟩,
    ⟨(some 10), .pick (.tmp 6) (.tmp 9) (.const (.bool false)), none⟩,
    ⟨(some 11), .move (.tmp 10), none⟩,
    ⟨(some 12), .fieldAddr 26 (.tmp 1) 2, (some (some 11, true))⟩,
    ⟨(some 13), .load 3 (.tmp 12), (some (some 11, true))⟩,
    ⟨(some 14), .call ⟨.value (.func 51), #[(.tmp 13), (.const (.int .i64 1)), (.const (.int .i64 9999))], #[3, 3, 3]⟩, (some (some 11, true))⟩,
    ⟨(some 15), .pick (.tmp 11) (.tmp 14) (.const (.bool false)), none⟩,
    ⟨(some 16), .move (.tmp 15), none⟩,
    ⟨(some 17), .fieldAddr 26 (.tmp 1) 3, (some (some 16, true))⟩,
    ⟨(some 18), .load 3 (.tmp 17), (some (some 16, true))⟩,
    ⟨(some 19), .call ⟨.value (.func 51), #[(.tmp 18), (.const (.int .i64 0)), (.const (.int .i64 100))], #[3, 3, 3]⟩, (some (some 16, true))⟩,
    ⟨(some 20), .pick (.tmp 16) (.tmp 19) (.const (.bool false)), none⟩,
    ⟨(some 21), .move (.tmp 20), none⟩,
    ⟨(some 22), .fieldAddr 26 (.tmp 1) 4, (some (some 21, true))⟩,
    ⟨(some 23), .load 3 (.tmp 22), (some (some 21, true))⟩,
    ⟨(some 24), .call ⟨.value (.func 51), #[(.tmp 23), (.const (.int .i64 0)), (.const (.int .i64 20))], #[3, 3, 3]⟩, (some (some 21, true))⟩,
    ⟨(some 25), .pick (.tmp 21) (.tmp 24) (.const (.bool false)), none⟩,
    ⟨(some 2), .assign (.tmp 25), none⟩] [2])
  .ret))
theorem impl_isPrinting_k : fnOk Tryd.prog 29 = some (impl_isPrinting_c.strip, 26, [.tmp 2]) := by kernel_rfl
/-- loop.example/g01062/spec.l14One: number 27, params [0] -/
def spec_l14One_c : ACode := (.seq (.reg [⟨(some 1), .box 26 (.tmp 0), none⟩,
    ⟨(some 2), .assign (.const (.bool false)), none⟩] [1])
  (.seq (.reg [⟨(some 3), .fieldAddr 26 (.tmp 1) 0, none⟩,
    ⟨(some 4), .load 3 (.tmp 3), none⟩,
    ⟨(some 5), .call ⟨.value (.func 52), #[(.tmp 4), (.const (.int .i64 1)), (.const (.int .i64 99))], #[3, 3, 3]⟩, none⟩,
    ⟨(some 6), .move (.tmp 5), none⟩,
    ⟨(some 7), .fieldAddr 26 (.tmp 1) 1, (some (some 6, true))⟩,
    ⟨(some 8), .load 3 (.tmp 7), (some (some 6, true))⟩,
    ⟨(some 9), .call ⟨.value (.func 53), #[(.tmp 8)], #[3]⟩, (some (some 6, true))⟩,
    ⟨(some 10), .pick (.tmp 6) (.tmp 9) (.const (.bool false)), none⟩,
    ⟨(some 11), .move (.tmp 10), none⟩,
    ⟨(some 12), .fieldAddr 26 (.tmp 1) 2, (some (some 11, true))⟩,
    ⟨(some 13), .load 3 (.tmp 12), (some (some 11, true))⟩,
    ⟨(some 14), .call ⟨.value (.func 52), #[(.tmp 13), (.const (.int .i64 1)), (.const (.int .i64 9999))], #[3, 3, 3]⟩, (some (some 11, true))⟩,
    ⟨(some 15), .pick (.tmp 11) (.tmp 14) (.const (.bool false)), none⟩,
    ⟨(some 16), .move (.tmp 15), none⟩,
    ⟨(some 17), .fieldAddr 26 (.tmp 1) 3, (some (some 16, true))⟩,
    ⟨(some 18), .load 3 (.tmp 17), (some (some 16, true))⟩,
    ⟨(some 19), .call ⟨.value (.func 52), #[(.tmp 18), (.const (.int .i64 0)), (.const (.int .i64 100))], #[3, 3, 3]⟩, (some (some 16, true))⟩,
    ⟨(some 20), .pick (.tmp 16) (.tmp 19) (.const (.bool false)), none⟩,
    ⟨(some 21), .move (.tmp 20), none⟩,
    ⟨(some 22), .fieldAddr 26 (.tmp 1) 4, (some (some 21, true))⟩,
    ⟨(some 23), .load 3 (.tmp 22), (some (some 21, true))⟩,
    ⟨(some 24), .call ⟨.value (.func 52), #[(.tmp 23), (.const (.int .i64 0)), (.const (.int .i64 20))], #[3, 3, 3]⟩, (some (some 21, true))⟩,
    ⟨(some 25), .pick (.tmp 21) (.tmp 24) (.const (.bool false)), none⟩,
    ⟨(some 2), .assign (.tmp 25), none⟩] [2])
  .ret))
theorem spec_l14One_k : fnOk Tryd.prog 27 = some (spec_l14One_c.strip, 26, [.tmp 2]) := by kernel_rfl
/-- loop.example/g01062/spec.l1Num: number 28, params [0] -/
def spec_l1Num_c : ACode := (.seq (.reg [⟨(some 2), .assign (.const (.string ⟨#[]⟩)), none⟩] [0])
  (.seq (.seq (.reg [⟨(some 3), .move (.tmp 0), none⟩,
    ⟨(some 4), .binOp .lss 3 (.tmp 3) (.const (.int .i64 0)) 3, none⟩] [0, 4])
  (.cond (.tmp 4) (.seq (.reg [⟨(some 5), .move (.tmp 0), none⟩,
    ⟨(some 6), .unOp .neg 3 (.tmp 5), none⟩,
    ⟨(some 7), .call ⟨.value (.func 28), #[(.tmp 6)], #[3]⟩, none⟩,
    ⟨(some 8), .binOp .add 9 (.const (.string ⟨#[45]⟩)) (.tmp 7) 9, none⟩,
    ⟨(some 2), .assign (.tmp 8), none⟩] [2])
  .ret)
  .skip))
  (.seq (.seq (.reg [⟨(some 9), .move (.tmp 0), none⟩,
    ⟨(some 10), .binOp .lss 3 (.tmp 9) (.const (.int .i64 10)) 3, none⟩] [0, 10])
  (.cond (.tmp 10) (.seq (.reg [⟨(some 11), .move (.tmp 0), none⟩,
    ⟨(some 12), .move (.tmp 0), none⟩,
    ⟨(some 13), .binOp .add 3 (.tmp 12) (.const (.int .i64 1)) 3, none⟩,
    ⟨(some 14), .slice 9 (.const (.string ⟨#[48, 49, 50, 51, 52, 53, 54, 55, 56, 57]⟩)) (some (.tmp 11)) (some (.tmp 13)) none, none⟩,
    ⟨(some 2), .assign (.tmp 14), none⟩] [2])
  .ret)
  .skip))
  (.seq (.regQ [⟨(some 15), .move (.tmp 0), none⟩,
    ⟨(some 16), .binOp .quo 3 (.tmp 15) (.const (.int .i64 10)) 3, none⟩,
    ⟨(some 17), .call ⟨.value (.func 28), #[(.tmp 16)], #[3]⟩, none⟩,
    ⟨(some 18), .move (.tmp 0), none⟩,
    ⟨(some 19), .binOp .rem 3 (.tmp 18) (.const (.int .i64 10)) 3, none⟩,
    ⟨(some 20), .move (.tmp 0), none⟩,
    ⟨(some 21), .binOp .rem 3 (.tmp 20) (.const (.int .i64 10)) 3, none⟩,
    ⟨(some 22), .binOp .add 3 (.tmp 21) (.const (.int .i64 1)) 3, none⟩,
    ⟨(some 23), .slice 9 (.const (.string ⟨#[48, 49, 50, 51, 52, 53, 54, 55, 56, 57]⟩)) (some (.tmp 19)) (some (.tmp 22)) none, none⟩,
    ⟨(some 24), .binOp .add 9 (.tmp 17) (.tmp 23) 9, none⟩,
    ⟨(some 2), .assign (.tmp 24), none⟩] [2])
  .ret))))
theorem spec_l1Num_k : fnOk Tryd.prog 28 = some (spec_l1Num_c.strip, 25, [.tmp 2]) := by kernel_rfl
/-- loop.example/g01062/impl.PrintingText: number 7, params [0] -/
def impl_PrintingText_c : ACode := (.seq (.reg [⟨(some 1), .box 26 (.tmp 0), none⟩,
    ⟨(some 2), .assign (.const (.string ⟨#[]⟩)), none⟩,
    ⟨(some 3), .assign (.const (.bool false)), none⟩] [1])
  (.seq (.seq (.reg [⟨(some 5), .load 26 (.tmp 1), none⟩,
    ⟨(some 6), .call ⟨.value (.func 29), #[(.tmp 5)], #[26]⟩, none⟩,
    ⟨(some 7), .unOp .not 4 (.tmp 6), none⟩] [1, 7])
  (.cond (.tmp 7) (.seq (.reg [⟨(some 2), .assign (.const (.string ⟨#[]⟩)), none⟩,
    ⟨(some 3), .assign (.const (.bool false)), none⟩] [2, 3])
  .ret)
  .skip))
  (.seq (.regQ [⟨(some 8), .fieldAddr 26 (.tmp 1) 0, none⟩,
    ⟨(some 9), .load 3 (.tmp 8), none⟩,
    ⟨(some 10), .call ⟨.value (.func 30), #[(.tmp 9)], #[3]⟩, none⟩,
    ⟨(some 11), .binOp .add 9 (.const (.string ⟨#[110]⟩)) (.tmp 10) 9, none⟩,
    ⟨(some 12), .binOp .add 9 (.tmp 11) (.const (.string ⟨#[32, 111, 110, 32]⟩)) 9, none⟩,
    ⟨(some 13), .fieldAddr 26 (.tmp 1) 1, none⟩,
    ⟨(some 14), .load 3 (.tmp 13), none⟩,
    ⟨(some 15), .call ⟨.value (.func 30), #[(.tmp 14)], #[3]⟩, none⟩,
    ⟨(some 16), .binOp .add 9 (.tmp 12) (.tmp 15) 9, none⟩,
    ⟨(some 17), .binOp .add 9 (.tmp 16) (.const (.string ⟨#[58, 32]⟩)) 9, none⟩,
    ⟨(some 18), .fieldAddr 26 (.tmp 1) 2, none⟩,
    ⟨(some 19), .load 3 (.tmp 18), none⟩,
    ⟨(some 20), .call ⟨.value (.func 30), #[(.tmp 19)], #[3]⟩, none⟩,
    ⟨(some 21), .binOp .add 9 (.tmp 17) (.tmp 20) 9, none⟩,
    ⟨(some 22), .binOp .add 9 (.tmp 21) (.const (.string ⟨#[32, 115, 104, 101, 101, 116, 115, 32]⟩)) 9, none⟩,
    ⟨(some 23), .fieldAddr 26 (.tmp 1) 3, none⟩,
    ⟨(some 24), .load 3 (.tmp 23), none⟩,
    ⟨(some 25), .call ⟨.value (.func 30), #[(.tmp 24)], #[3]⟩, none⟩,
    ⟨(some 26), .binOp .add 9 (.tmp 22) (.tmp 25) 9, none⟩,
    ⟨(some 4), .assign (.tmp 26), none⟩] [1, 4])
  (.seq (.seq (.reg [⟨(some 27), .fieldAddr 26 (.tmp 1) 4, none⟩,
    ⟨(some 28), .load 3 (.tmp 27), none⟩,
    ⟨(some 29), .binOp .neq 3 (.tmp 28) (.const (.int .i64 0)) 3, none⟩] [1, 4, 29])
  (.cond (.tmp 29) (.reg [⟨(some 30), .move (.tmp 4), none⟩,
    ⟨(some 31), .fieldAddr 26 (.tmp 1) 4, none⟩,
    ⟨(some 32), .load 3 (.tmp 31), none⟩,
    ⟨(some 33), .call ⟨.value (.func 30), #[(.tmp 32)], #[3]⟩, none⟩,
    ⟨(some 34), .binOp .add 9 (.const (.string ⟨#[43, 45]⟩)) (.tmp 33) 9, none⟩,
    ⟨(some 35), .binOp .add 9 (.tmp 30) (.tmp 34) 9, none⟩,
    ⟨(some 4), .assign (.tmp 35), none⟩] [4])
  .skip))
  (.seq (.reg [⟨(some 36), .move (.tmp 4), none⟩,
    ⟨(some 2), .assign (.tmp 36), none⟩,
    ⟨(some 3), .assign (.const (.bool true)), none⟩] [2, 3])
  .ret)))))
theorem impl_PrintingText_k : fnOk Tryd.prog 7 = some (impl_PrintingText_c.strip, 37, [.tmp 2, .tmp 3]) := by kernel_rfl
/-- loop.example/g01062/spec.PrintingText: number 5, params [0] -/
def spec_PrintingText_c : ACode := (.seq (.reg [⟨(some 1), .box 26 (.tmp 0), none⟩,
    ⟨(some 2), .assign (.const (.string ⟨#[]⟩)), none⟩,
    ⟨(some 3), .assign (.const (.bool false)), none⟩] [1])
  (.seq (.seq (.reg [⟨(some 5), .load 26 (.tmp 1), none⟩,
    ⟨(some 6), .call ⟨.value (.func 27), #[(.tmp 5)], #[26]⟩, none⟩,
    ⟨(some 7), .unOp .not 4 (.tmp 6), none⟩] [1, 7])
  (.cond (.tmp 7) (.seq (.reg [⟨(some 2), .assign (.const (.string ⟨#[]⟩)), none⟩,
    ⟨(some 3), .assign (.const (.bool false)), none⟩] [2, 3])
  .ret)
  .skip))
  (.seq (.regQ [⟨(some 8), .fieldAddr 26 (.tmp 1) 0, none⟩,
    ⟨(some 9), .load 3 (.tmp 8), none⟩,
    ⟨(some 10), .call ⟨.value (.func 28), #[(.tmp 9)], #[3]⟩, none⟩,
    ⟨(some 11), .binOp .add 9 (.const (.string ⟨#[110]⟩)) (.tmp 10) 9, none⟩,
    ⟨(some 12), .binOp .add 9 (.tmp 11) (.const (.string ⟨#[32, 111, 110, 32]⟩)) 9, none⟩,
    ⟨(some 13), .fieldAddr 26 (.tmp 1) 1, none⟩,
    ⟨(some 14), .load 3 (.tmp 13), none⟩,
    ⟨(some 15), .call ⟨.value (.func 28), #[(.tmp 14)], #[3]⟩, none⟩,
    ⟨(some 16), .binOp .add 9 (.tmp 12) (.tmp 15) 9, none⟩,
    ⟨(some 17), .binOp .add 9 (.tmp 16) (.const (.string ⟨#[58, 32]⟩)) 9, none⟩,
    ⟨(some 18), .fieldAddr 26 (.tmp 1) 2, none⟩,
    ⟨(some 19), .load 3 (.tmp 18), none⟩,
    ⟨(some 20), .call ⟨.value (.func 28), #[(.tmp 19)], #[3]⟩, none⟩,
    ⟨(some 21), .binOp .add 9 (.tmp 17) (.tmp 20) 9, none⟩,
    ⟨(some 22), .binOp .add 9 (.tmp 21) (.const (.string ⟨#[32, 115, 104, 101, 101, 116, 115, 32]⟩)) 9, none⟩,
    ⟨(some 23), .fieldAddr 26 (.tmp 1) 3, none⟩,
    ⟨(some 24), .load 3 (.tmp 23), none⟩,
    ⟨(some 25), .call ⟨.value (.func 28), #[(.tmp 24)], #[3]⟩, none⟩,
    ⟨(some 26), .binOp .add 9 (.tmp 22) (.tmp 25) 9, none⟩,
    ⟨(some 4), .assign (.tmp 26), none⟩] [1, 4])
  (.seq (.seq (.reg [⟨(some 27), .fieldAddr 26 (.tmp 1) 4, none⟩,
    ⟨(some 28), .load 3 (.tmp 27), none⟩,
    ⟨(some 29), .binOp .gtr 3 (.tmp 28) (.const (.int .i64 0)) 3, none⟩] [1, 4, 29])
  (.cond (.tmp 29) (.reg [⟨(some 30), .move (.tmp 4), none⟩,
    ⟨(some 31), .binOp .add 9 (.tmp 30) (.const (.string ⟨#[43, 45]⟩)) 9, none⟩,
    ⟨(some 32), .fieldAddr 26 (.tmp 1) 4, none⟩,
    ⟨(some 33), .load 3 (.tmp 32), none⟩,
    ⟨(some 34), .call ⟨.value (.func 28), #[(.tmp 33)], #[3]⟩, none⟩,
    ⟨(some 35), .binOp .add 9 (.tmp 31) (.tmp 34) 9, none⟩,
    ⟨(some 4), .assign (.tmp 35), none⟩] [4])
  .skip))
  (.seq (.reg [⟨(some 36), .move (.tmp 4), none⟩,
    ⟨(some 2), .assign (.tmp 36), none⟩,
    ⟨(some 3), .assign (.const (.bool true)), none⟩] [2, 3])
  .ret)))))
theorem spec_PrintingText_k : fnOk Tryd.prog 5 = some (spec_PrintingText_c.strip, 37, [.tmp 2, .tmp 3]) := by kernel_rfl
/-- loop.example/g01062/laws.toPrinting: number 6, params [0] -/
def laws_toPrinting_c : ACode := (.seq (.reg [⟨(some 1), .box 23 (.tmp 0), none⟩,
    ⟨(some 2), .alloc 26, none⟩] [1, 2])
  (.seq (.reg [⟨(some 3), .alloc 26, none⟩] [1, 2, 3])
  (.seq (.reg [⟨(some 4), .fieldAddr 23 (.tmp 1) 0, none⟩,
    ⟨(some 5), .load 3 (.tmp 4), none⟩,
    ⟨(some 6), .fieldAddr 26 (.tmp 3) 0, none⟩,
    ⟨none, .store 3 (.tmp 6) (.tmp 5), none⟩] [1, 2, 3])
  (.seq (.reg [⟨(some 7), .fieldAddr 23 (.tmp 1) 1, none⟩,
    ⟨(some 8), .load 3 (.tmp 7), none⟩,
    ⟨(some 9), .fieldAddr 26 (.tmp 3) 1, none⟩,
    ⟨none, .store 3 (.tmp 9) (.tmp 8), none⟩] [1, 2, 3])
  (.seq (.reg [⟨(some 10), .fieldAddr 23 (.tmp 1) 2, none⟩,
    ⟨(some 11), .load 3 (.tmp 10), none⟩,
    ⟨(some 12), .fieldAddr 26 (.tmp 3) 2, none⟩,
    ⟨none, .store 3 (.tmp 12) (.tmp 11), none⟩] [1, 2, 3])
  (.seq (.reg [⟨(some 13), .fieldAddr 23 (.tmp 1) 3, none⟩,
    ⟨(some 14), .load 3 (.tmp 13), none⟩,
    ⟨(some 15), .fieldAddr 26 (.tmp 3) 3, none⟩,
    ⟨none, .store 3 (.tmp 15) (.tmp 14), none⟩] [1, 2, 3])
  (.seq (.reg [⟨(some 16), .fieldAddr 23 (.tmp 1) 4, none⟩,
    ⟨(some 17), .load 3 (.tmp 16), none⟩,
    ⟨(some 18), .fieldAddr 26 (.tmp 3) 4, none⟩,
    ⟨none, .store 3 (.tmp 18) (.tmp 17), none⟩] [2, 3])
  (.seq (.reg [⟨(some 19), .load 26 (.tmp 3), none⟩,
    ⟨none, .store 26 (.tmp 2) (.tmp 19), none⟩] [2])
  .ret))))))))
theorem laws_toPrinting_k : fnOk Tryd.prog 6 = some (laws_toPrinting_c.strip, 20, [.cell 2 26]) := by kernel_rfl
/-- loop.example/g01062/laws.FnExactPrintingText: number 3, params [0] -/
def laws_FnExactPrintingText_c : ACode := (.seq (.reg [⟨(some 1), .box 23 (.tmp 0), none⟩,
    ⟨(some 2), .assign (.const (.bool false)), none⟩] [1])
  (.seq (.reg [⟨(some 8), .load 23 (.tmp 1), none⟩,
    ⟨(some 9), .call ⟨.value (.func 6), #[(.tmp 8)], #[23]⟩, none⟩,
    ⟨(some 10), .call ⟨.value (.func 5), #[(.tmp 9)], #[26]⟩, none⟩,
    ⟨(some 7), .move (.tmp 10), none⟩,
    ⟨(some 11), .extract (.tmp 7) 0, none⟩,
    ⟨(some 12), .extract (.tmp 7) 1, none⟩,
    ⟨(some 3), .assign (.tmp 11), none⟩,
    ⟨(some 4), .assign (.tmp 12), none⟩] [1, 3, 4])
  (.seq (.reg [⟨(some 14), .load 23 (.tmp 1), none⟩,
    ⟨(some 15), .call ⟨.value (.func 6), #[(.tmp 14)], #[23]⟩, none⟩,
    ⟨(some 16), .call ⟨.value (.func 7), #[(.tmp 15)], #[26]⟩, none⟩,
    ⟨(some 13), .move (.tmp 16), none⟩,
    ⟨(some 17), .extract (.tmp 13) 0, none⟩,
    ⟨(some 18), .extract (.tmp 13) 1, none⟩,
    ⟨(some 5), .assign (.tmp 17), none⟩,
    ⟨(some 6), .assign (.tmp 18), none⟩] [3, 4, 5, 6])
  (.seq (.seq (.reg [⟨(some 19), .move (.tmp 5), none⟩,
    ⟨(some 20), .move (.tmp 3), none⟩,
    ⟨(some 21), .binOp .neq 9 (.tmp 19) (.tmp 20) 9, none⟩,
    ⟨(some 22), .move (.tmp 21), none⟩,
    ⟨(some 23), .move (.tmp 6), (some (some 22, false))⟩,
    ⟨(some 24), .move (.tmp 4), (some (some 22, false))⟩,
    ⟨(some 25), .binOp .neq 4 (.tmp 23) (.tmp 24) 4, (some (some 22, false))⟩,
    ⟨(some 26), .pick (.tmp 22) (.const (.bool true)) (.tmp 25), none⟩] [26])
  (.cond (.tmp 26) (.seq (.reg [⟨(some 2), .assign (.const (.bool false)), none⟩] [2])
  .ret)
  .skip))
  (.seq (.reg [⟨(some 2), .assign (.const (.bool true)), none⟩] [2])
  .ret)))))
theorem laws_FnExactPrintingText_k : fnOk Tryd.prog 3 = some (laws_FnExactPrintingText_c.strip, 27, [.tmp 2]) := by kernel_rfl
end Go.Proofs.YticknbohoolhgaaDoor
