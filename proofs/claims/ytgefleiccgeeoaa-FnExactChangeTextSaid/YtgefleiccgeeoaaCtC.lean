/- Printed by a program of ours: the functions' abstract code and facts on their types. -/
import Derived.Test.YtgefleiccgeeoaaAbsP
import Derived.Test.YtgefleiccgeeoaaProg
import Derived.KernelRfl
set_option maxRecDepth 8000
namespace Go.Proofs.Ytgefleiccgeeoaa
open Go Go.RowKit
@[simp] theorem dk_3 : dK Try.prog 3 = some (.int .i64) := by kernel_rfl
@[simp] theorem ty_3 : tyK Try.prog 3 = some .cell := by kernel_rfl
@[simp] theorem zero_3 : zeroK Try.prog 3 = some [.int .i64 0] := by kernel_rfl
@[simp] theorem dk_4 : dK Try.prog 4 = some .bool := by kernel_rfl
@[simp] theorem ty_4 : tyK Try.prog 4 = some .cell := by kernel_rfl
@[simp] theorem zero_4 : zeroK Try.prog 4 = some [.bool false] := by kernel_rfl
@[simp] theorem dk_9 : dK Try.prog 9 = some .str := by kernel_rfl
@[simp] theorem ty_9 : tyK Try.prog 9 = some .cell := by kernel_rfl
@[simp] theorem zero_9 : zeroK Try.prog 9 = some [.str []] := by kernel_rfl
@[simp] theorem sl_27 : slK Try.prog 27 = some (3, 1, 8) := by kernel_rfl
@[simp] theorem dk_27 : dK Try.prog 27 = some .slc := by kernel_rfl
@[simp] theorem ty_27 : tyK Try.prog 27 = some .cell := by kernel_rfl
@[simp] theorem zero_27 : zeroK Try.prog 27 = some [.nils] := by kernel_rfl
@[simp] theorem sl_28 : slK Try.prog 28 = some (9, 1, 16) := by kernel_rfl
@[simp] theorem dk_28 : dK Try.prog 28 = some .slc := by kernel_rfl
@[simp] theorem ty_28 : tyK Try.prog 28 = some .cell := by kernel_rfl
@[simp] theorem zero_28 : zeroK Try.prog 28 = some [.nils] := by kernel_rfl
/-- head: [0, 4, 10, 11, 12] -/
def impl_ChangeText_l0 : ACode := (.seq (.reg [⟨(some 13), .binOp .lss 3 (.tmp 12) (.tmp 11) 3, none⟩] [0, 4, 10, 11, 12, 13])
  (.seq (.cond (.tmp 13) .skip
  (.exit 0))
  (.seq (.block 1 (.seq (.reg [⟨(some 14), .move (.tmp 12), none⟩,
    ⟨(some 15), .indexAddr 28 (.tmp 10) (.tmp 12), none⟩,
    ⟨(some 16), .load 9 (.tmp 15), none⟩,
    ⟨(some 5), .assign (.tmp 14), none⟩,
    ⟨(some 6), .assign (.tmp 16), none⟩] [0, 4, 5, 6, 10, 11, 12])
  (.seq (.reg [⟨(some 17), .move (.tmp 0), none⟩,
    ⟨(some 18), .move (.tmp 5), none⟩,
    ⟨(some 19), .binOp .shr 3 (.tmp 17) (.tmp 18) 3, none⟩,
    ⟨(some 20), .binOp .and 3 (.tmp 19) (.const (.int .i64 1)) 3, none⟩,
    ⟨(some 21), .binOp .eql 3 (.tmp 20) (.const (.int .i64 1)) 3, none⟩] [0, 4, 6, 10, 11, 12, 21])
  (.cond (.tmp 21) (.reg [⟨(some 22), .move (.tmp 4), none⟩,
    ⟨(some 23), .move (.tmp 6), none⟩,
    ⟨(some 24), .buildSlice 28 1 #[(0, (.tmp 23))], none⟩,
    ⟨(some 25), .call ⟨.builtin .append, #[(.tmp 22), (.tmp 24)], #[28, 28]⟩, none⟩,
    ⟨(some 4), .assign (.tmp 25), none⟩] [0, 4, 10, 11, 12])
  .skip))))
  (.reg [⟨(some 26), .binOp .add 3 (.tmp 12) (.const (.int .i64 1)) 3, none⟩,
    ⟨(some 12), .move (.tmp 26), none⟩] [0, 4, 10, 11, 12]))))
/-- loop.example/g01062/impl.ChangeText: number 5, params [0] -/
def impl_ChangeText_c : ACode := (.seq (.reg [⟨(some 2), .assign (.const (.string ⟨#[]⟩)), none⟩,
    ⟨(some 3), .assign (.const (.bool false)), none⟩] [0])
  (.seq (.seq (.reg [⟨(some 7), .move (.tmp 0), none⟩,
    ⟨(some 8), .call ⟨.value (.func 8), #[(.tmp 7), (.const (.int .i64 0)), (.const (.int .i64 15))], #[3, 3, 3]⟩, none⟩,
    ⟨(some 9), .unOp .not 4 (.tmp 8), none⟩] [0, 9])
  (.cond (.tmp 9) (.seq (.reg [⟨(some 2), .assign (.const (.string ⟨#[]⟩)), none⟩,
    ⟨(some 3), .assign (.const (.bool false)), none⟩] [2, 3])
  .ret)
  .skip))
  (.seq (.reg [⟨(some 4), .assign (.const (.slice none 0 0)), none⟩] [0, 4])
  (.seq (.seq (.reg [⟨(some 10), .buildSlice 28 4 #[(0, (.const (.string ⟨#[100, 97, 121]⟩))), (1, (.const (.string ⟨#[122, 111, 110, 101]⟩))), (2, (.const (.string ⟨#[103, 114, 97, 109, 115]⟩))), (3, (.const (.string ⟨#[112, 97, 105, 100]⟩)))], none⟩,
    ⟨(some 11), .call ⟨.builtin .len, #[(.tmp 10)], #[28]⟩, none⟩,
    ⟨(some 12), .move (.const (.int .i64 0)), none⟩] [0, 4, 10, 11, 12])
  (.block 0 (.loop impl_ChangeText_l0)))
  (.seq (.seq (.reg [⟨(some 27), .move (.tmp 4), none⟩,
    ⟨(some 28), .call ⟨.builtin .len, #[(.tmp 27)], #[28]⟩, none⟩,
    ⟨(some 29), .binOp .eql 3 (.tmp 28) (.const (.int .i64 0)) 3, none⟩] [4, 29])
  (.cond (.tmp 29) (.seq (.reg [⟨(some 2), .assign (.const (.string ⟨#[110, 111, 110, 101]⟩)), none⟩,
    ⟨(some 3), .assign (.const (.bool true)), none⟩] [2, 3])
  .ret)
  .skip))
  (.seq (.reg [⟨(some 30), .move (.tmp 4), none⟩,
    ⟨(some 31), .call ⟨.value (.func 9), #[(.tmp 30), (.const (.string ⟨#[43]⟩))], #[28, 9]⟩, none⟩,
    ⟨(some 2), .assign (.tmp 31), none⟩,
    ⟨(some 3), .assign (.const (.bool true)), none⟩] [2, 3])
  .ret))))))
theorem impl_ChangeText_k : fnOk Try.prog (fun _ => false) 5 = some (impl_ChangeText_c.strip, 32, [.tmp 2, .tmp 3]) := by kernel_rfl
/-- head: [0, 4, 5] -/
def spec_ChangeText_l0 : ACode := (.seq (.seq (.reg [⟨(some 9), .move (.tmp 5), none⟩,
    ⟨(some 10), .binOp .lss 3 (.tmp 9) (.const (.int .i64 4)) 3, none⟩] [0, 4, 5, 10])
  (.cond (.tmp 10) .skip
  (.exit 0)))
  (.seq (.block 1 (.seq (.seq (.reg [⟨(some 13), .move (.tmp 0), none⟩,
    ⟨(some 14), .buildSlice 27 4 #[(0, (.const (.int .i64 1))), (1, (.const (.int .i64 2))), (2, (.const (.int .i64 4))), (3, (.const (.int .i64 8)))], none⟩,
    ⟨(some 15), .move (.tmp 5), none⟩,
    ⟨(some 16), .indexAddr 27 (.tmp 14) (.tmp 15), none⟩,
    ⟨(some 17), .load 3 (.tmp 16), none⟩,
    ⟨(some 18), .call ⟨.value (.func 7), #[(.tmp 13), (.tmp 17)], #[3, 3]⟩, none⟩,
    ⟨(some 19), .unOp .not 4 (.tmp 18), none⟩] [0, 4, 5, 19])
  (.cond (.tmp 19) (.exit 1)
  .skip))
  (.seq (.seq (.reg [⟨(some 20), .move (.tmp 4), none⟩,
    ⟨(some 21), .binOp .neq 9 (.tmp 20) (.const (.string ⟨#[]⟩)) 9, none⟩] [0, 4, 5, 21])
  (.cond (.tmp 21) (.reg [⟨(some 22), .move (.tmp 4), none⟩,
    ⟨(some 23), .binOp .add 9 (.tmp 22) (.const (.string ⟨#[43]⟩)) 9, none⟩,
    ⟨(some 4), .assign (.tmp 23), none⟩] [0, 4, 5])
  .skip))
  (.reg [⟨(some 24), .move (.tmp 4), none⟩,
    ⟨(some 25), .buildSlice 28 4 #[(0, (.const (.string ⟨#[100, 97, 121]⟩))), (1, (.const (.string ⟨#[122, 111, 110, 101]⟩))), (2, (.const (.string ⟨#[103, 114, 97, 109, 115]⟩))), (3, (.const (.string ⟨#[112, 97, 105, 100]⟩)))], none⟩,
    ⟨(some 26), .move (.tmp 5), none⟩,
    ⟨(some 27), .indexAddr 28 (.tmp 25) (.tmp 26), none⟩,
    ⟨(some 28), .load 9 (.tmp 27), none⟩,
    ⟨(some 29), .binOp .add 9 (.tmp 24) (.tmp 28) 9, none⟩,
    ⟨(some 4), .assign (.tmp 29), none⟩] [0, 4, 5]))))
  (.reg [⟨(some 11), .move (.tmp 5), none⟩,
    ⟨(some 12), .binOp .add 3 (.tmp 11) (.const (.int .i64 1)) 3, none⟩,
    ⟨(some 5), .assign (.tmp 12), none⟩] [0, 4, 5])))
/-- loop.example/g01062/spec.ChangeText: number 4, params [0] -/
def spec_ChangeText_c : ACode := (.seq (.reg [⟨(some 2), .assign (.const (.string ⟨#[]⟩)), none⟩,
    ⟨(some 3), .assign (.const (.bool false)), none⟩] [0])
  (.seq (.seq (.reg [⟨(some 6), .move (.tmp 0), none⟩,
    ⟨(some 7), .call ⟨.value (.func 6), #[(.tmp 6), (.const (.int .i64 0)), (.const (.int .i64 15))], #[3, 3, 3]⟩, none⟩,
    ⟨(some 8), .unOp .not 4 (.tmp 7), none⟩] [0, 8])
  (.cond (.tmp 8) (.seq (.reg [⟨(some 2), .assign (.const (.string ⟨#[]⟩)), none⟩,
    ⟨(some 3), .assign (.const (.bool false)), none⟩] [2, 3])
  .ret)
  .skip))
  (.seq (.reg [⟨(some 4), .assign (.const (.string ⟨#[]⟩)), none⟩] [0, 4])
  (.seq (.seq (.reg [⟨(some 5), .assign (.const (.int .i64 0)), none⟩] [0, 4, 5])
  (.block 0 (.loop spec_ChangeText_l0)))
  (.seq (.seq (.reg [⟨(some 30), .move (.tmp 4), none⟩,
    ⟨(some 31), .binOp .eql 9 (.tmp 30) (.const (.string ⟨#[]⟩)) 9, none⟩] [4, 31])
  (.cond (.tmp 31) (.seq (.reg [⟨(some 2), .assign (.const (.string ⟨#[110, 111, 110, 101]⟩)), none⟩,
    ⟨(some 3), .assign (.const (.bool true)), none⟩] [2, 3])
  .ret)
  .skip))
  (.seq (.reg [⟨(some 32), .move (.tmp 4), none⟩,
    ⟨(some 2), .assign (.tmp 32), none⟩,
    ⟨(some 3), .assign (.const (.bool true)), none⟩] [2, 3])
  .ret))))))
theorem spec_ChangeText_k : fnOk Try.prog (fun _ => false) 4 = some (spec_ChangeText_c.strip, 33, [.tmp 2, .tmp 3]) := by kernel_rfl
/-- loop.example/g01062/spec.l12Has: number 7, params [0, 1] -/
def spec_l12Has_c : ACode := (.seq (.reg [⟨(some 4), .assign (.const (.bool false)), none⟩] [0, 1])
  (.seq (.reg [⟨(some 5), .move (.tmp 0), none⟩,
    ⟨(some 6), .move (.tmp 1), none⟩,
    ⟨(some 7), .binOp .quo 3 (.tmp 5) (.tmp 6) 3, none⟩,
    ⟨(some 8), .binOp .rem 3 (.tmp 7) (.const (.int .i64 2)) 3, none⟩,
    ⟨(some 9), .binOp .eql 3 (.tmp 8) (.const (.int .i64 1)) 3, none⟩,
    ⟨(some 4), .assign (.tmp 9), none⟩] [4])
  .ret))
theorem spec_l12Has_k : fnOk Try.prog (fun _ => false) 7 = some (spec_l12Has_c.strip, 10, [.tmp 4]) := by kernel_rfl
/-- loop.example/g01062/impl.inRange: number 8, params [0, 1, 2] -/
def impl_inRange_c : ACode := (.seq (.reg [⟨(some 6), .assign (.const (.bool false)), none⟩] [0, 1, 2])
  (.seq (.reg [⟨(some 7), .move (.tmp 0), none⟩,
    ⟨(some 8), .move (.tmp 1), none⟩,
    ⟨(some 9), .binOp .geq 3 (.tmp 7) (.tmp 8) 3, none⟩,
    ⟨(some 10), .move (.tmp 9), none⟩,
    ⟨(some 11), .move (.tmp 0), (some (some 10, true))⟩,
    ⟨(some 12), .move (.tmp 2), (some (some 10, true))⟩,
    ⟨(some 13), .binOp .leq 3 (.tmp 11) (.tmp 12) 3, (some (some 10, true))⟩,
    ⟨(some 14), .pick (.tmp 10) (.tmp 13) (.const (.bool false)), none⟩,
    ⟨(some 6), .assign (.tmp 14), none⟩] [6])
  .ret))
theorem impl_inRange_k : fnOk Try.prog (fun _ => false) 8 = some (impl_inRange_c.strip, 15, [.tmp 6]) := by kernel_rfl
/-- loop.example/g01062/spec.l1In: number 6, params [0, 1, 2] -/
def spec_l1In_c : ACode := (.seq (.reg [⟨(some 6), .assign (.const (.bool false)), none⟩] [0, 1, 2])
  (.seq (.reg [⟨(some 7), .move (.tmp 0), none⟩,
    ⟨(some 8), .move (.tmp 1), none⟩,
    ⟨(some 9), .binOp .geq 3 (.tmp 7) (.tmp 8) 3, none⟩,
    ⟨(some 10), .move (.tmp 9), none⟩,
    ⟨(some 11), .move (.tmp 0), (some (some 10, true))⟩,
    ⟨(some 12), .move (.tmp 2), (some (some 10, true))⟩,
    ⟨(some 13), .binOp .leq 3 (.tmp 11) (.tmp 12) 3, (some (some 10, true))⟩,
    ⟨(some 14), .pick (.tmp 10) (.tmp 13) (.const (.bool false)), none⟩,
    ⟨(some 6), .assign (.tmp 14), none⟩] [6])
  .ret))
theorem spec_l1In_k : fnOk Try.prog (fun _ => false) 6 = some (spec_l1In_c.strip, 15, [.tmp 6]) := by kernel_rfl
/-- loop.example/g01062/laws.FnExactChangeText: number 3, params [0] -/
def laws_FnExactChangeText_c : ACode := (.seq (.reg [⟨(some 2), .assign (.const (.bool false)), none⟩] [0])
  (.seq (.reg [⟨(some 8), .move (.tmp 0), none⟩,
    ⟨(some 9), .call ⟨.value (.func 4), #[(.tmp 8)], #[3]⟩, none⟩,
    ⟨(some 7), .move (.tmp 9), none⟩,
    ⟨(some 10), .extract (.tmp 7) 0, none⟩,
    ⟨(some 11), .extract (.tmp 7) 1, none⟩,
    ⟨(some 3), .assign (.tmp 10), none⟩,
    ⟨(some 4), .assign (.tmp 11), none⟩] [0, 3, 4])
  (.seq (.reg [⟨(some 13), .move (.tmp 0), none⟩,
    ⟨(some 14), .call ⟨.value (.func 5), #[(.tmp 13)], #[3]⟩, none⟩,
    ⟨(some 12), .move (.tmp 14), none⟩,
    ⟨(some 15), .extract (.tmp 12) 0, none⟩,
    ⟨(some 16), .extract (.tmp 12) 1, none⟩,
    ⟨(some 5), .assign (.tmp 15), none⟩,
    ⟨(some 6), .assign (.tmp 16), none⟩] [3, 4, 5, 6])
  (.seq (.seq (.reg [⟨(some 17), .move (.tmp 5), none⟩,
    ⟨(some 18), .move (.tmp 3), none⟩,
    ⟨(some 19), .binOp .neq 9 (.tmp 17) (.tmp 18) 9, none⟩,
    ⟨(some 20), .move (.tmp 19), none⟩,
    ⟨(some 21), .move (.tmp 6), (some (some 20, false))⟩,
    ⟨(some 22), .move (.tmp 4), (some (some 20, false))⟩,
    ⟨(some 23), .binOp .neq 4 (.tmp 21) (.tmp 22) 4, (some (some 20, false))⟩,
    ⟨(some 24), .pick (.tmp 20) (.const (.bool true)) (.tmp 23), none⟩] [24])
  (.cond (.tmp 24) (.seq (.reg [⟨(some 2), .assign (.const (.bool false)), none⟩] [2])
  .ret)
  .skip))
  (.seq (.reg [⟨(some 2), .assign (.const (.bool true)), none⟩] [2])
  .ret)))))
theorem laws_FnExactChangeText_k : fnOk Try.prog (fun _ => false) 3 = some (laws_FnExactChangeText_c.strip, 25, [.tmp 2]) := by kernel_rfl
end Go.Proofs.Ytgefleiccgeeoaa
