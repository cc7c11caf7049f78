/- Printed by a program of ours: the functions' abstract code and facts on their types. -/
import Derived.Test.YtnehhdcaknppnaaDoorAbsP
import Derived.Test.YtnehhdcaknppnaaDoorProg
import Derived.KernelRfl
set_option maxRecDepth 8000
namespace Go.Proofs.YtnehhdcaknppnaaDoor
open Go Go.RowKit
@[simp] theorem dk_3 : dK Tryd.prog 3 = some (.int .i64) := by kernel_rfl
@[simp] theorem ty_3 : tyK Tryd.prog 3 = some .cell := by kernel_rfl
@[simp] theorem zero_3 : zeroK Tryd.prog 3 = some [.int .i64 0] := by kernel_rfl
@[simp] theorem dk_4 : dK Tryd.prog 4 = some .bool := by kernel_rfl
@[simp] theorem ty_4 : tyK Tryd.prog 4 = some .cell := by kernel_rfl
@[simp] theorem zero_4 : zeroK Tryd.prog 4 = some [.bool false] := by kernel_rfl
@[simp] theorem dk_5 : dK Tryd.prog 5 = some (.int .u8) := by kernel_rfl
@[simp] theorem ty_5 : tyK Tryd.prog 5 = some .cell := by kernel_rfl
@[simp] theorem zero_5 : zeroK Tryd.prog 5 = some [.int .u8 0] := by kernel_rfl
@[simp] theorem dk_9 : dK Tryd.prog 9 = some .str := by kernel_rfl
@[simp] theorem ty_9 : tyK Tryd.prog 9 = some .cell := by kernel_rfl
@[simp] theorem zero_9 : zeroK Tryd.prog 9 = some [.str []] := by kernel_rfl
@[simp] theorem ty_23 : tyK Tryd.prog 23 = some (.obj 6) := by kernel_rfl
@[simp] theorem fld_23_0 : fldK Tryd.prog 23 0 = some 0 := by kernel_rfl
@[simp] theorem fld_23_1 : fldK Tryd.prog 23 1 = some 1 := by kernel_rfl
@[simp] theorem fld_23_2 : fldK Tryd.prog 23 2 = some 2 := by kernel_rfl
@[simp] theorem fld_23_3 : fldK Tryd.prog 23 3 = some 3 := by kernel_rfl
@[simp] theorem fld_23_4 : fldK Tryd.prog 23 4 = some 4 := by kernel_rfl
@[simp] theorem fld_23_5 : fldK Tryd.prog 23 5 = some 5 := by kernel_rfl
@[simp] theorem eqk_23 : eqKs Tryd.prog 23 = some [0, 1, 0, 0, 0, 1] := by kernel_rfl
@[simp] theorem pl_23 : plK Tryd.prog 23 = some (some [(0, 1), (1, 1), (2, 1), (3, 1), (4, 1), (5, 1)]) := by kernel_rfl
@[simp] theorem zero_23 : zeroK Tryd.prog 23 = some [.int .i64 0, .str [], .int .i64 0, .int .i64 0, .int .i64 0, .str []] := by kernel_rfl
@[simp] theorem ty_26 : tyK Tryd.prog 26 = some (.obj 6) := by kernel_rfl
@[simp] theorem fld_26_0 : fldK Tryd.prog 26 0 = some 0 := by kernel_rfl
@[simp] theorem fld_26_1 : fldK Tryd.prog 26 1 = some 1 := by kernel_rfl
@[simp] theorem fld_26_2 : fldK Tryd.prog 26 2 = some 2 := by kernel_rfl
@[simp] theorem fld_26_3 : fldK Tryd.prog 26 3 = some 3 := by kernel_rfl
@[simp] theorem fld_26_4 : fldK Tryd.prog 26 4 = some 4 := by kernel_rfl
@[simp] theorem fld_26_5 : fldK Tryd.prog 26 5 = some 5 := by kernel_rfl
@[simp] theorem eqk_26 : eqKs Tryd.prog 26 = some [0, 1, 0, 0, 0, 1] := by kernel_rfl
@[simp] theorem pl_26 : plK Tryd.prog 26 = some (some [(0, 1), (1, 1), (2, 1), (3, 1), (4, 1), (5, 1)]) := by kernel_rfl
@[simp] theorem zero_26 : zeroK Tryd.prog 26 = some [.int .i64 0, .str [], .int .i64 0, .int .i64 0, .int .i64 0, .str []] := by kernel_rfl
@[simp] theorem sl_31 : slK Tryd.prog 31 = some (23, 6, 64) := by kernel_rfl
@[simp] theorem dk_31 : dK Tryd.prog 31 = some .slc := by kernel_rfl
@[simp] theorem ty_31 : tyK Tryd.prog 31 = some .cell := by kernel_rfl
@[simp] theorem zero_31 : zeroK Tryd.prog 31 = some [.nils] := by kernel_rfl
@[simp] theorem sl_34 : slK Tryd.prog 34 = some (26, 6, 64) := by kernel_rfl
@[simp] theorem dk_34 : dK Tryd.prog 34 = some .slc := by kernel_rfl
@[simp] theorem ty_34 : tyK Tryd.prog 34 = some .cell := by kernel_rfl
@[simp] theorem zero_34 : zeroK Tryd.prog 34 = some [.nils] := by kernel_rfl
@[simp] theorem sl_51 : slK Tryd.prog 51 = some (3, 1, 8) := by kernel_rfl
@[simp] theorem dk_51 : dK Tryd.prog 51 = some .slc := by kernel_rfl
@[simp] theorem ty_51 : tyK Tryd.prog 51 = some .cell := by kernel_rfl
@[simp] theorem zero_51 : zeroK Tryd.prog 51 = some [.nils] := by kernel_rfl
@[simp] theorem sl_57 : slK Tryd.prog 57 = some (9, 1, 16) := by kernel_rfl
@[simp] theorem dk_57 : dK Tryd.prog 57 = some .slc := by kernel_rfl
@[simp] theorem ty_57 : tyK Tryd.prog 57 = some .cell := by kernel_rfl
@[simp] theorem zero_57 : zeroK Tryd.prog 57 = some [.nils] := by kernel_rfl
@[simp] theorem sl_63 : slK Tryd.prog 63 = some (5, 1, 1) := by kernel_rfl
@[simp] theorem dk_63 : dK Tryd.prog 63 = some (.bytes 5) := by kernel_rfl
@[simp] theorem ty_63 : tyK Tryd.prog 63 = some .cell := by kernel_rfl
@[simp] theorem zero_63 : zeroK Tryd.prog 63 = some [.nils] := by kernel_rfl
@[simp] theorem sl_78 : slK Tryd.prog 78 = some (4, 1, 1) := by kernel_rfl
@[simp] theorem dk_78 : dK Tryd.prog 78 = some .slc := by kernel_rfl
@[simp] theorem ty_78 : tyK Tryd.prog 78 = some .cell := by kernel_rfl
@[simp] theorem zero_78 : zeroK Tryd.prog 78 = some [.nils] := by kernel_rfl
@[simp] theorem dk_102 : dK Tryd.prog 102 = some (.int .u64) := by kernel_rfl
@[simp] theorem ty_102 : tyK Tryd.prog 102 = some .cell := by kernel_rfl
@[simp] theorem zero_102 : zeroK Tryd.prog 102 = some [.int .u64 0] := by kernel_rfl
@[simp] theorem dk_141 : dK Tryd.prog 141 = some (.int .u64) := by kernel_rfl
@[simp] theorem ty_141 : tyK Tryd.prog 141 = some .cell := by kernel_rfl
@[simp] theorem zero_141 : zeroK Tryd.prog 141 = some [.int .u64 0] := by kernel_rfl
/-- loop.example/g01062/laws.FnExactIsPostmark: number 3, params [0] -/
def laws_FnExactIsPostmark_c : ACode := (.seq (.reg [⟨(some 1), .box 23 (.tmp 0), none⟩,
    ⟨(some 2), .assign (.const (.bool false)), none⟩] [1])
  (.seq (.reg [⟨(some 3), .assign (.const (.int .i64 1048576)), none⟩] [1, 3])
  (.seq (.reg [⟨(some 6), .load 23 (.tmp 1), none⟩,
    ⟨(some 7), .move (.tmp 3), none⟩,
    ⟨(some 8), .call ⟨.value (.func 15), #[(.tmp 6), (.tmp 7)], #[23, 3]⟩, none⟩,
    ⟨(some 3), .assign (.tmp 8), none⟩] [1, 3])
  (.seq (.seq (.reg [⟨(some 9), .move (.tmp 3), none⟩,
    ⟨(some 10), .binOp .lss 3 (.tmp 9) (.const (.int .i64 0)) 3, none⟩] [1, 10])
  (.cond (.tmp 10) (.seq (.reg [⟨(some 2), .assign (.const (.bool true)), none⟩] [2])
  .ret)
  .skip))
  (.seq (.reg [⟨(some 11), .load 23 (.tmp 1), none⟩,
    ⟨(some 12), .call ⟨.value (.func 17), #[(.tmp 11)], #[23]⟩, none⟩,
    ⟨(some 13), .call ⟨.value (.func 16), #[(.tmp 12)], #[26]⟩, none⟩,
    ⟨(some 4), .assign (.tmp 13), none⟩] [1, 4])
  (.seq (.reg [⟨(some 14), .load 23 (.tmp 1), none⟩,
    ⟨(some 15), .call ⟨.value (.func 17), #[(.tmp 14)], #[23]⟩, none⟩,
    ⟨(some 16), .call ⟨.value (.func 18), #[(.tmp 15)], #[26]⟩, none⟩,
    ⟨(some 5), .assign (.tmp 16), none⟩] [4, 5])
  (.seq (.seq (.reg [⟨(some 17), .move (.tmp 5), none⟩,
    ⟨(some 18), .move (.tmp 4), none⟩,
    ⟨(some 19), .binOp .neq 4 (.tmp 17) (.tmp 18) 4, none⟩] [19])
  (.cond (.tmp 19) (.seq (.reg [⟨(some 2), .assign (.const (.bool false)), none⟩] [2])
  .ret)
  .skip))
  (.seq (.reg [⟨(some 2), .assign (.const (.bool true)), none⟩] [2])
  .ret))))))))
theorem laws_FnExactIsPostmark_k : fnOk Tryd.prog (fun _ => false) 3 = some (laws_FnExactIsPostmark_c.strip, 20, [.tmp 2]) := by kernel_rfl
/-- loop.example/g01062/laws.FnExactShownBy: number 4, params [0] -/
def laws_FnExactShownBy_c : ACode := (.seq (.reg [⟨(some 1), .box 23 (.tmp 0), none⟩,
    ⟨(some 2), .assign (.const (.bool false)), none⟩] [1])
  (.seq (.reg [⟨(some 3), .assign (.const (.int .i64 1048576)), none⟩] [1, 3])
  (.seq (.reg [⟨(some 8), .load 23 (.tmp 1), none⟩,
    ⟨(some 9), .move (.tmp 3), none⟩,
    ⟨(some 10), .call ⟨.value (.func 15), #[(.tmp 8), (.tmp 9)], #[23, 3]⟩, none⟩,
    ⟨(some 3), .assign (.tmp 10), none⟩] [1, 3])
  (.seq (.seq (.reg [⟨(some 11), .move (.tmp 3), none⟩,
    ⟨(some 12), .binOp .lss 3 (.tmp 11) (.const (.int .i64 0)) 3, none⟩] [1, 12])
  (.cond (.tmp 12) (.seq (.reg [⟨(some 2), .assign (.const (.bool true)), none⟩] [2])
  .ret)
  .skip))
  (.seq (.reg [⟨(some 14), .load 23 (.tmp 1), none⟩,
    ⟨(some 15), .call ⟨.value (.func 17), #[(.tmp 14)], #[23]⟩, none⟩,
    ⟨(some 16), .call ⟨.value (.func 19), #[(.tmp 15)], #[26]⟩, none⟩,
    ⟨(some 13), .move (.tmp 16), none⟩,
    ⟨(some 17), .extract (.tmp 13) 0, none⟩,
    ⟨(some 18), .extract (.tmp 13) 1, none⟩,
    ⟨(some 4), .assign (.tmp 17), none⟩,
    ⟨(some 5), .assign (.tmp 18), none⟩] [1, 4, 5])
  (.seq (.reg [⟨(some 20), .load 23 (.tmp 1), none⟩,
    ⟨(some 21), .call ⟨.value (.func 17), #[(.tmp 20)], #[23]⟩, none⟩,
    ⟨(some 22), .call ⟨.value (.func 20), #[(.tmp 21)], #[26]⟩, none⟩,
    ⟨(some 19), .move (.tmp 22), none⟩,
    ⟨(some 23), .extract (.tmp 19) 0, none⟩,
    ⟨(some 24), .extract (.tmp 19) 1, none⟩,
    ⟨(some 6), .assign (.tmp 23), none⟩,
    ⟨(some 7), .assign (.tmp 24), none⟩] [4, 5, 6, 7])
  (.seq (.seq (.reg [⟨(some 25), .move (.tmp 6), none⟩,
    ⟨(some 26), .move (.tmp 4), none⟩,
    ⟨(some 27), .binOp .neq 9 (.tmp 25) (.tmp 26) 9, none⟩,
    ⟨(some 28), .move (.tmp 27), none⟩,
    ⟨(some 29), .move (.tmp 7), (some (some 28, false))⟩,
    ⟨(some 30), .move (.tmp 5), (some (some 28, false))⟩,
    ⟨(some 31), .binOp .neq 4 (.tmp 29) (.tmp 30) 4, (some (some 28, false))⟩,
    ⟨(some 32), .pick (.tmp 28) (.const (.bool true)) (.tmp 31), none⟩] [32])
  (.cond (.tmp 32) (.seq (.reg [⟨(some 2), .assign (.const (.bool false)), none⟩] [2])
  .ret)
  .skip))
  (.seq (.reg [⟨(some 2), .assign (.const (.bool true)), none⟩] [2])
  .ret))))))))
theorem laws_FnExactShownBy_k : fnOk Tryd.prog (fun _ => false) 4 = some (laws_FnExactShownBy_c.strip, 33, [.tmp 2]) := by kernel_rfl
/-- loop.example/g01062/laws.FnExactArePostmarks: number 5, params [0] -/
def laws_FnExactArePostmarks_c : ACode := (.seq (.reg [⟨(some 2), .assign (.const (.bool false)), none⟩] [0])
  (.seq (.reg [⟨(some 3), .assign (.const (.int .i64 1048576)), none⟩] [0, 3])
  (.seq (.reg [⟨(some 7), .move (.tmp 0), none⟩,
    ⟨(some 8), .move (.tmp 3), none⟩,
    ⟨(some 9), .call ⟨.value (.func 21), #[(.tmp 7), (.tmp 8)], #[31, 3]⟩, none⟩,
    ⟨(some 3), .assign (.tmp 9), none⟩] [0, 3])
  (.seq (.seq (.reg [⟨(some 10), .move (.tmp 3), none⟩,
    ⟨(some 11), .binOp .lss 3 (.tmp 10) (.const (.int .i64 0)) 3, none⟩] [0, 11])
  (.cond (.tmp 11) (.seq (.reg [⟨(some 2), .assign (.const (.bool true)), none⟩] [2])
  .ret)
  .skip))
  (.seq (.reg [⟨(some 12), .move (.tmp 0), none⟩,
    ⟨(some 13), .call ⟨.value (.func 23), #[(.tmp 12)], #[31]⟩, none⟩,
    ⟨(some 14), .call ⟨.value (.func 22), #[(.tmp 13)], #[34]⟩, none⟩,
    ⟨(some 4), .assign (.tmp 14), none⟩] [0, 4])
  (.seq (.reg [⟨(some 15), .move (.tmp 0), none⟩,
    ⟨(some 16), .call ⟨.value (.func 23), #[(.tmp 15)], #[31]⟩, none⟩,
    ⟨(some 5), .assign (.tmp 16), none⟩] [0, 4, 5])
  (.seq (.reg [⟨(some 17), .move (.tmp 5), none⟩,
    ⟨(some 18), .call ⟨.value (.func 24), #[(.tmp 17)], #[34]⟩, none⟩,
    ⟨(some 6), .assign (.tmp 18), none⟩] [0, 4, 5, 6])
  (.seq (.seq (.reg [⟨(some 19), .move (.tmp 6), none⟩,
    ⟨(some 20), .move (.tmp 4), none⟩,
    ⟨(some 21), .binOp .neq 4 (.tmp 19) (.tmp 20) 4, none⟩] [0, 5, 21])
  (.cond (.tmp 21) (.seq (.reg [⟨(some 2), .assign (.const (.bool false)), none⟩] [2])
  .ret)
  .skip))
  (.seq (.seq (.reg [⟨(some 22), .move (.tmp 5), none⟩,
    ⟨(some 23), .move (.tmp 0), none⟩,
    ⟨(some 24), .call ⟨.value (.func 23), #[(.tmp 23)], #[31]⟩, none⟩,
    ⟨(some 25), .call ⟨.value (.func 25), #[(.tmp 22), (.tmp 24)], #[34, 34]⟩, none⟩,
    ⟨(some 26), .unOp .not 4 (.tmp 25), none⟩] [26])
  (.cond (.tmp 26) (.seq (.reg [⟨(some 2), .assign (.const (.bool false)), none⟩] [2])
  .ret)
  .skip))
  (.seq (.reg [⟨(some 2), .assign (.const (.bool true)), none⟩] [2])
  .ret))))))))))
theorem laws_FnExactArePostmarks_k : fnOk Tryd.prog (fun _ => false) 5 = some (laws_FnExactArePostmarks_c.strip, 27, [.tmp 2]) := by kernel_rfl
/-- loop.example/g01062/laws.FnExactLatestUse: number 6, params [0, 1] -/
def laws_FnExactLatestUse_c : ACode := (.seq (.reg [⟨(some 4), .assign (.const (.bool false)), none⟩] [0, 1])
  (.seq (.seq (.reg [⟨(some 13), .move (.tmp 1), none⟩,
    ⟨(some 14), .call ⟨.builtin .len, #[(.tmp 13)], #[9]⟩, none⟩,
    ⟨(some 15), .binOp .gtr 3 (.tmp 14) (.const (.int .i64 1048576)) 3, none⟩] [0, 1, 15])
  (.cond (.tmp 15) (.seq (.reg [⟨(some 4), .assign (.const (.bool true)), none⟩] [4])
  .ret)
  .skip))
  (.seq (.reg [⟨(some 5), .assign (.const (.int .i64 1048576)), none⟩] [0, 1, 5])
  (.seq (.reg [⟨(some 16), .move (.tmp 0), none⟩,
    ⟨(some 17), .move (.tmp 5), none⟩,
    ⟨(some 18), .call ⟨.value (.func 21), #[(.tmp 16), (.tmp 17)], #[31, 3]⟩, none⟩,
    ⟨(some 5), .assign (.tmp 18), none⟩] [0, 1, 5])
  (.seq (.seq (.reg [⟨(some 19), .move (.tmp 5), none⟩,
    ⟨(some 20), .binOp .lss 3 (.tmp 19) (.const (.int .i64 0)) 3, none⟩] [0, 1, 20])
  (.cond (.tmp 20) (.seq (.reg [⟨(some 4), .assign (.const (.bool true)), none⟩] [4])
  .ret)
  .skip))
  (.seq (.reg [⟨(some 22), .move (.tmp 0), none⟩,
    ⟨(some 23), .call ⟨.value (.func 23), #[(.tmp 22)], #[31]⟩, none⟩,
    ⟨(some 24), .move (.tmp 1), none⟩,
    ⟨(some 25), .call ⟨.value (.func 26), #[(.tmp 23), (.tmp 24)], #[34, 9]⟩, none⟩,
    ⟨(some 21), .move (.tmp 25), none⟩,
    ⟨(some 26), .extract (.tmp 21) 0, none⟩,
    ⟨(some 27), .extract (.tmp 21) 1, none⟩,
    ⟨(some 28), .extract (.tmp 21) 2, none⟩,
    ⟨(some 6), .assign (.tmp 26), none⟩,
    ⟨(some 7), .assign (.tmp 27), none⟩,
    ⟨(some 8), .assign (.tmp 28), none⟩] [0, 1, 6, 7, 8])
  (.seq (.reg [⟨(some 29), .move (.tmp 0), none⟩,
    ⟨(some 30), .call ⟨.value (.func 23), #[(.tmp 29)], #[31]⟩, none⟩,
    ⟨(some 9), .assign (.tmp 30), none⟩] [0, 1, 6, 7, 8, 9])
  (.seq (.reg [⟨(some 32), .move (.tmp 9), none⟩,
    ⟨(some 33), .move (.tmp 1), none⟩,
    ⟨(some 34), .call ⟨.value (.func 27), #[(.tmp 32), (.tmp 33)], #[34, 9]⟩, none⟩,
    ⟨(some 31), .move (.tmp 34), none⟩,
    ⟨(some 35), .extract (.tmp 31) 0, none⟩,
    ⟨(some 36), .extract (.tmp 31) 1, none⟩,
    ⟨(some 37), .extract (.tmp 31) 2, none⟩,
    ⟨(some 10), .assign (.tmp 35), none⟩,
    ⟨(some 11), .assign (.tmp 36), none⟩,
    ⟨(some 12), .assign (.tmp 37), none⟩] [0, 6, 7, 8, 9, 10, 11, 12])
  (.seq (.seq (.reg [⟨(some 38), .move (.tmp 10), none⟩,
    ⟨(some 39), .move (.tmp 6), none⟩,
    ⟨(some 40), .binOp .neq 3 (.tmp 38) (.tmp 39) 3, none⟩,
    ⟨(some 41), .move (.tmp 40), none⟩,
    ⟨(some 42), .move (.tmp 11), (some (some 41, false))⟩,
    ⟨(some 43), .move (.tmp 7), (some (some 41, false))⟩,
    ⟨(some 44), .binOp .neq 3 (.tmp 42) (.tmp 43) 3, (some (some 41, false))⟩,
    ⟨(some 45), .pick (.tmp 41) (.const (.bool true)) (.tmp 44), none⟩,
    ⟨(some 46), .move (.tmp 45), none⟩,
    ⟨(some 47), .move (.tmp 12), (some (some 46, false))⟩,
    ⟨(some 48), .move (.tmp 8), (some (some 46, false))⟩,
    ⟨(some 49), .binOp .neq 4 (.tmp 47) (.tmp 48) 4, (some (some 46, false))⟩,
    ⟨(some 50), .pick (.tmp 46) (.const (.bool true)) (.tmp 49), none⟩] [0, 9, 50])
  (.cond (.tmp 50) (.seq (.reg [⟨(some 4), .assign (.const (.bool false)), none⟩] [4])
  .ret)
  .skip))
  (.seq (.seq (.reg [⟨(some 51), .move (.tmp 9), none⟩,
    ⟨(some 52), .move (.tmp 0), none⟩,
    ⟨(some 53), .call ⟨.value (.func 23), #[(.tmp 52)], #[31]⟩, none⟩,
    ⟨(some 54), .call ⟨.value (.func 25), #[(.tmp 51), (.tmp 53)], #[34, 34]⟩, none⟩,
    ⟨(some 55), .unOp .not 4 (.tmp 54), none⟩] [55])
  (.cond (.tmp 55) (.seq (.reg [⟨(some 4), .assign (.const (.bool false)), none⟩] [4])
  .ret)
  .skip))
  (.seq (.reg [⟨(some 4), .assign (.const (.bool true)), none⟩] [4])
  .ret)))))))))))
theorem laws_FnExactLatestUse_k : fnOk Tryd.prog (fun _ => false) 6 = some (laws_FnExactLatestUse_c.strip, 56, [.tmp 4]) := by kernel_rfl
/-- loop.example/g01062/laws.FnExactGapBetween: number 7, params [0, 1] -/
def laws_FnExactGapBetween_c : ACode := (.seq (.reg [⟨(some 4), .assign (.const (.bool false)), none⟩] [0, 1])
  (.seq (.seq (.reg [⟨(some 11), .move (.tmp 1), none⟩,
    ⟨(some 12), .call ⟨.builtin .len, #[(.tmp 11)], #[9]⟩, none⟩,
    ⟨(some 13), .binOp .gtr 3 (.tmp 12) (.const (.int .i64 1048576)) 3, none⟩] [0, 1, 13])
  (.cond (.tmp 13) (.seq (.reg [⟨(some 4), .assign (.const (.bool true)), none⟩] [4])
  .ret)
  .skip))
  (.seq (.reg [⟨(some 5), .assign (.const (.int .i64 1048576)), none⟩] [0, 1, 5])
  (.seq (.reg [⟨(some 14), .move (.tmp 0), none⟩,
    ⟨(some 15), .move (.tmp 5), none⟩,
    ⟨(some 16), .call ⟨.value (.func 21), #[(.tmp 14), (.tmp 15)], #[31, 3]⟩, none⟩,
    ⟨(some 5), .assign (.tmp 16), none⟩] [0, 1, 5])
  (.seq (.seq (.reg [⟨(some 17), .move (.tmp 5), none⟩,
    ⟨(some 18), .binOp .lss 3 (.tmp 17) (.const (.int .i64 0)) 3, none⟩] [0, 1, 18])
  (.cond (.tmp 18) (.seq (.reg [⟨(some 4), .assign (.const (.bool true)), none⟩] [4])
  .ret)
  .skip))
  (.seq (.reg [⟨(some 20), .move (.tmp 0), none⟩,
    ⟨(some 21), .call ⟨.value (.func 23), #[(.tmp 20)], #[31]⟩, none⟩,
    ⟨(some 22), .move (.tmp 1), none⟩,
    ⟨(some 23), .call ⟨.value (.func 28), #[(.tmp 21), (.tmp 22)], #[34, 9]⟩, none⟩,
    ⟨(some 19), .move (.tmp 23), none⟩,
    ⟨(some 24), .extract (.tmp 19) 0, none⟩,
    ⟨(some 25), .extract (.tmp 19) 1, none⟩,
    ⟨(some 6), .assign (.tmp 24), none⟩,
    ⟨(some 7), .assign (.tmp 25), none⟩] [0, 1, 6, 7])
  (.seq (.reg [⟨(some 26), .move (.tmp 0), none⟩,
    ⟨(some 27), .call ⟨.value (.func 23), #[(.tmp 26)], #[31]⟩, none⟩,
    ⟨(some 8), .assign (.tmp 27), none⟩] [0, 1, 6, 7, 8])
  (.seq (.reg [⟨(some 29), .move (.tmp 8), none⟩,
    ⟨(some 30), .move (.tmp 1), none⟩,
    ⟨(some 31), .call ⟨.value (.func 29), #[(.tmp 29), (.tmp 30)], #[34, 9]⟩, none⟩,
    ⟨(some 28), .move (.tmp 31), none⟩,
    ⟨(some 32), .extract (.tmp 28) 0, none⟩,
    ⟨(some 33), .extract (.tmp 28) 1, none⟩,
    ⟨(some 9), .assign (.tmp 32), none⟩,
    ⟨(some 10), .assign (.tmp 33), none⟩] [0, 6, 7, 8, 9, 10])
  (.seq (.seq (.reg [⟨(some 34), .move (.tmp 9), none⟩,
    ⟨(some 35), .move (.tmp 6), none⟩,
    ⟨(some 36), .binOp .neq 3 (.tmp 34) (.tmp 35) 3, none⟩,
    ⟨(some 37), .move (.tmp 36), none⟩,
    ⟨(some 38), .move (.tmp 10), (some (some 37, false))⟩,
    ⟨(some 39), .move (.tmp 7), (some (some 37, false))⟩,
    ⟨(some 40), .binOp .neq 4 (.tmp 38) (.tmp 39) 4, (some (some 37, false))⟩,
    ⟨(some 41), .pick (.tmp 37) (.const (.bool true)) (.tmp 40), none⟩] [0, 8, 41])
  (.cond (.tmp 41) (.seq (.reg [⟨(some 4), .assign (.const (.bool false)), none⟩] [4])
  .ret)
  .skip))
  (.seq (.seq (.reg [⟨(some 42), .move (.tmp 8), none⟩,
    ⟨(some 43), .move (.tmp 0), none⟩,
    ⟨(some 44), .call ⟨.value (.func 23), #[(.tmp 43)], #[31]⟩, none⟩,
    ⟨(some 45), .call ⟨.value (.func 25), #[(.tmp 42), (.tmp 44)], #[34, 34]⟩, none⟩,
    ⟨(some 46), .unOp .not 4 (.tmp 45), none⟩] [46])
  (.cond (.tmp 46) (.seq (.reg [⟨(some 4), .assign (.const (.bool false)), none⟩] [4])
  .ret)
  .skip))
  (.seq (.reg [⟨(some 4), .assign (.const (.bool true)), none⟩] [4])
  .ret)))))))))))
theorem laws_FnExactGapBetween_k : fnOk Tryd.prog (fun _ => false) 7 = some (laws_FnExactGapBetween_c.strip, 47, [.tmp 4]) := by kernel_rfl
/-- loop.example/g01062/laws.FnExactSameTown: number 8, params [0, 1, 2] -/
def laws_FnExactSameTown_c : ACode := (.seq (.reg [⟨(some 6), .assign (.const (.bool false)), none⟩] [0, 1, 2])
  (.seq (.reg [⟨(some 7), .assign (.const (.int .i64 1048576)), none⟩] [0, 1, 2, 7])
  (.seq (.reg [⟨(some 13), .move (.tmp 0), none⟩,
    ⟨(some 14), .move (.tmp 7), none⟩,
    ⟨(some 15), .call ⟨.value (.func 21), #[(.tmp 13), (.tmp 14)], #[31, 3]⟩, none⟩,
    ⟨(some 7), .assign (.tmp 15), none⟩] [0, 1, 2, 7])
  (.seq (.seq (.reg [⟨(some 16), .move (.tmp 7), none⟩,
    ⟨(some 17), .binOp .lss 3 (.tmp 16) (.const (.int .i64 0)) 3, none⟩] [0, 1, 2, 17])
  (.cond (.tmp 17) (.seq (.reg [⟨(some 6), .assign (.const (.bool true)), none⟩] [6])
  .ret)
  .skip))
  (.seq (.reg [⟨(some 19), .move (.tmp 0), none⟩,
    ⟨(some 20), .call ⟨.value (.func 23), #[(.tmp 19)], #[31]⟩, none⟩,
    ⟨(some 21), .move (.tmp 1), none⟩,
    ⟨(some 22), .move (.tmp 2), none⟩,
    ⟨(some 23), .call ⟨.value (.func 30), #[(.tmp 20), (.tmp 21), (.tmp 22)], #[34, 3, 3]⟩, none⟩,
    ⟨(some 18), .move (.tmp 23), none⟩,
    ⟨(some 24), .extract (.tmp 18) 0, none⟩,
    ⟨(some 25), .extract (.tmp 18) 1, none⟩,
    ⟨(some 8), .assign (.tmp 24), none⟩,
    ⟨(some 9), .assign (.tmp 25), none⟩] [0, 1, 2, 8, 9])
  (.seq (.reg [⟨(some 26), .move (.tmp 0), none⟩,
    ⟨(some 27), .call ⟨.value (.func 23), #[(.tmp 26)], #[31]⟩, none⟩,
    ⟨(some 10), .assign (.tmp 27), none⟩] [0, 1, 2, 8, 9, 10])
  (.seq (.reg [⟨(some 29), .move (.tmp 10), none⟩,
    ⟨(some 30), .move (.tmp 1), none⟩,
    ⟨(some 31), .move (.tmp 2), none⟩,
    ⟨(some 32), .call ⟨.value (.func 31), #[(.tmp 29), (.tmp 30), (.tmp 31)], #[34, 3, 3]⟩, none⟩,
    ⟨(some 28), .move (.tmp 32), none⟩,
    ⟨(some 33), .extract (.tmp 28) 0, none⟩,
    ⟨(some 34), .extract (.tmp 28) 1, none⟩,
    ⟨(some 11), .assign (.tmp 33), none⟩,
    ⟨(some 12), .assign (.tmp 34), none⟩] [0, 8, 9, 10, 11, 12])
  (.seq (.seq (.reg [⟨(some 35), .move (.tmp 11), none⟩,
    ⟨(some 36), .move (.tmp 8), none⟩,
    ⟨(some 37), .binOp .neq 4 (.tmp 35) (.tmp 36) 4, none⟩,
    ⟨(some 38), .move (.tmp 37), none⟩,
    ⟨(some 39), .move (.tmp 12), (some (some 38, false))⟩,
    ⟨(some 40), .move (.tmp 9), (some (some 38, false))⟩,
    ⟨(some 41), .binOp .neq 4 (.tmp 39) (.tmp 40) 4, (some (some 38, false))⟩,
    ⟨(some 42), .pick (.tmp 38) (.const (.bool true)) (.tmp 41), none⟩] [0, 10, 42])
  (.cond (.tmp 42) (.seq (.reg [⟨(some 6), .assign (.const (.bool false)), none⟩] [6])
  .ret)
  .skip))
  (.seq (.seq (.reg [⟨(some 43), .move (.tmp 10), none⟩,
    ⟨(some 44), .move (.tmp 0), none⟩,
    ⟨(some 45), .call ⟨.value (.func 23), #[(.tmp 44)], #[31]⟩, none⟩,
    ⟨(some 46), .call ⟨.value (.func 25), #[(.tmp 43), (.tmp 45)], #[34, 34]⟩, none⟩,
    ⟨(some 47), .unOp .not 4 (.tmp 46), none⟩] [47])
  (.cond (.tmp 47) (.seq (.reg [⟨(some 6), .assign (.const (.bool false)), none⟩] [6])
  .ret)
  .skip))
  (.seq (.reg [⟨(some 6), .assign (.const (.bool true)), none⟩] [6])
  .ret))))))))))
theorem laws_FnExactSameTown_k : fnOk Tryd.prog (fun _ => false) 8 = some (laws_FnExactSameTown_c.strip, 48, [.tmp 6]) := by kernel_rfl
/-- loop.example/g01062/laws.FnExactLoseLetter: number 9, params [0, 1, 2] -/
def laws_FnExactLoseLetter_c : ACode := (.seq (.reg [⟨(some 6), .assign (.const (.bool false)), none⟩] [0, 1, 2])
  (.seq (.reg [⟨(some 7), .assign (.const (.int .i64 1048576)), none⟩] [0, 1, 2, 7])
  (.seq (.reg [⟨(some 18), .move (.tmp 0), none⟩,
    ⟨(some 19), .move (.tmp 7), none⟩,
    ⟨(some 20), .call ⟨.value (.func 21), #[(.tmp 18), (.tmp 19)], #[31, 3]⟩, none⟩,
    ⟨(some 7), .assign (.tmp 20), none⟩] [0, 1, 2, 7])
  (.seq (.seq (.reg [⟨(some 21), .move (.tmp 7), none⟩,
    ⟨(some 22), .binOp .lss 3 (.tmp 21) (.const (.int .i64 0)) 3, none⟩] [0, 1, 2, 22])
  (.cond (.tmp 22) (.seq (.reg [⟨(some 6), .assign (.const (.bool true)), none⟩] [6])
  .ret)
  .skip))
  (.seq (.reg [⟨(some 24), .move (.tmp 0), none⟩,
    ⟨(some 25), .call ⟨.value (.func 23), #[(.tmp 24)], #[31]⟩, none⟩,
    ⟨(some 26), .move (.tmp 1), none⟩,
    ⟨(some 27), .move (.tmp 2), none⟩,
    ⟨(some 28), .call ⟨.value (.func 32), #[(.tmp 25), (.tmp 26), (.tmp 27)], #[34, 3, 3]⟩, none⟩,
    ⟨(some 23), .move (.tmp 28), none⟩,
    ⟨(some 29), .extract (.tmp 23) 0, none⟩,
    ⟨(some 30), .extract (.tmp 23) 1, none⟩,
    ⟨(some 8), .assign (.tmp 29), none⟩,
    ⟨(some 9), .assign (.tmp 30), none⟩] [0, 1, 2, 8, 9])
  (.seq (.reg [⟨(some 31), .move (.tmp 0), none⟩,
    ⟨(some 32), .call ⟨.value (.func 23), #[(.tmp 31)], #[31]⟩, none⟩,
    ⟨(some 10), .assign (.tmp 32), none⟩] [0, 1, 2, 8, 9, 10])
  (.seq (.reg [⟨(some 34), .move (.tmp 10), none⟩,
    ⟨(some 35), .move (.tmp 1), none⟩,
    ⟨(some 36), .move (.tmp 2), none⟩,
    ⟨(some 37), .call ⟨.value (.func 33), #[(.tmp 34), (.tmp 35), (.tmp 36)], #[34, 3, 3]⟩, none⟩,
    ⟨(some 33), .move (.tmp 37), none⟩,
    ⟨(some 38), .extract (.tmp 33) 0, none⟩,
    ⟨(some 39), .extract (.tmp 33) 1, none⟩,
    ⟨(some 11), .assign (.tmp 38), none⟩,
    ⟨(some 12), .assign (.tmp 39), none⟩] [0, 1, 2, 8, 9, 10, 11, 12])
  (.seq (.seq (.reg [⟨(some 40), .move (.tmp 11), none⟩,
    ⟨(some 41), .move (.tmp 8), none⟩,
    ⟨(some 42), .call ⟨.value (.func 25), #[(.tmp 40), (.tmp 41)], #[34, 34]⟩, none⟩,
    ⟨(some 43), .unOp .not 4 (.tmp 42), none⟩,
    ⟨(some 44), .move (.tmp 43), none⟩,
    ⟨(some 45), .move (.tmp 12), (some (some 44, false))⟩,
    ⟨(some 46), .move (.tmp 9), (some (some 44, false))⟩,
    ⟨(some 47), .binOp .neq 4 (.tmp 45) (.tmp 46) 4, (some (some 44, false))⟩,
    ⟨(some 48), .pick (.tmp 44) (.const (.bool true)) (.tmp 47), none⟩] [0, 1, 2, 8, 9, 10, 11, 12, 48])
  (.cond (.tmp 48) (.seq (.reg [⟨(some 6), .assign (.const (.bool false)), none⟩] [6])
  .ret)
  .skip))
  (.seq (.seq (.reg [⟨(some 49), .move (.tmp 10), none⟩,
    ⟨(some 50), .move (.tmp 0), none⟩,
    ⟨(some 51), .call ⟨.value (.func 23), #[(.tmp 50)], #[31]⟩, none⟩,
    ⟨(some 52), .call ⟨.value (.func 25), #[(.tmp 49), (.tmp 51)], #[34, 34]⟩, none⟩,
    ⟨(some 53), .unOp .not 4 (.tmp 52), none⟩] [0, 1, 2, 8, 9, 10, 11, 12, 53])
  (.cond (.tmp 53) (.seq (.reg [⟨(some 6), .assign (.const (.bool false)), none⟩] [6])
  .ret)
  .skip))
  (.seq (.reg [⟨(some 13), .assign (.const (.int .i64 1)), none⟩] [0, 1, 2, 8, 9, 10, 11, 12, 13])
  (.seq (.reg [⟨(some 54), .move (.tmp 10), none⟩,
    ⟨(some 55), .move (.tmp 13), none⟩,
    ⟨(some 56), .call ⟨.value (.func 34), #[(.tmp 54), (.tmp 55)], #[34, 3]⟩, none⟩,
    ⟨(some 13), .assign (.tmp 56), none⟩] [0, 1, 2, 8, 9, 11, 12, 13])
  (.seq (.seq (.reg [⟨(some 57), .move (.tmp 13), none⟩,
    ⟨(some 58), .binOp .lss 3 (.tmp 57) (.const (.int .i64 0)) 3, none⟩,
    ⟨(some 59), .move (.tmp 58), none⟩,
    ⟨(some 60), .move (.tmp 11), (some (some 59, false))⟩,
    ⟨(some 61), .move (.tmp 8), (some (some 59, false))⟩,
    ⟨(some 62), .call ⟨.value (.func 25), #[(.tmp 60), (.tmp 61)], #[34, 34]⟩, (some (some 59, false))⟩,
    ⟨(some 63), .unOp .not 4 (.tmp 62), (some (some 59, false))⟩,
    ⟨(some 64), .pick (.tmp 59) (.const (.bool true)) (.tmp 63), none⟩,
    ⟨(some 65), .move (.tmp 64), none⟩,
    ⟨(some 66), .move (.tmp 12), (some (some 65, false))⟩,
    ⟨(some 67), .move (.tmp 9), (some (some 65, false))⟩,
    ⟨(some 68), .binOp .neq 4 (.tmp 66) (.tmp 67) 4, (some (some 65, false))⟩,
    ⟨(some 69), .pick (.tmp 65) (.const (.bool true)) (.tmp 68), none⟩] [0, 1, 2, 8, 9, 11, 69])
  (.cond (.tmp 69) (.seq (.reg [⟨(some 6), .assign (.const (.bool false)), none⟩] [6])
  .ret)
  .skip))
  (.seq (.reg [⟨(some 14), .assign (.const (.int .i64 1)), none⟩] [0, 1, 2, 8, 9, 11, 14])
  (.seq (.reg [⟨(some 70), .move (.tmp 11), none⟩,
    ⟨(some 71), .move (.tmp 14), none⟩,
    ⟨(some 72), .call ⟨.value (.func 34), #[(.tmp 70), (.tmp 71)], #[34, 3]⟩, none⟩,
    ⟨(some 14), .assign (.tmp 72), none⟩] [0, 1, 2, 8, 9, 11, 14])
  (.seq (.reg [⟨(some 15), .assign (.const (.int .i64 1)), none⟩] [0, 1, 2, 8, 9, 11, 14, 15])
  (.seq (.reg [⟨(some 73), .move (.tmp 11), none⟩,
    ⟨(some 74), .move (.tmp 15), none⟩,
    ⟨(some 75), .call ⟨.value (.func 35), #[(.tmp 73), (.tmp 74)], #[34, 3]⟩, none⟩,
    ⟨(some 15), .assign (.tmp 75), none⟩] [0, 1, 2, 8, 9, 11, 14, 15])
  (.seq (.seq (.reg [⟨(some 76), .move (.tmp 15), none⟩,
    ⟨(some 77), .binOp .lss 3 (.tmp 76) (.const (.int .i64 0)) 3, none⟩] [0, 1, 2, 8, 9, 11, 14, 15, 77])
  (.cond (.tmp 77) (.seq (.reg [⟨(some 6), .assign (.const (.bool false)), none⟩] [6])
  .ret)
  .skip))
  (.seq (.seq (.reg [⟨(some 78), .move (.tmp 15), none⟩,
    ⟨(some 79), .move (.tmp 14), none⟩,
    ⟨(some 80), .binOp .neq 3 (.tmp 78) (.tmp 79) 3, none⟩] [0, 1, 2, 8, 9, 11, 14, 80])
  (.cond (.tmp 80) (.seq (.reg [⟨(some 6), .assign (.const (.bool false)), none⟩] [6])
  .ret)
  .skip))
  (.seq (.reg [⟨(some 82), .move (.tmp 0), none⟩,
    ⟨(some 83), .call ⟨.value (.func 23), #[(.tmp 82)], #[31]⟩, none⟩,
    ⟨(some 84), .move (.tmp 1), none⟩,
    ⟨(some 85), .move (.tmp 2), none⟩,
    ⟨(some 86), .call ⟨.value (.func 33), #[(.tmp 83), (.tmp 84), (.tmp 85)], #[34, 3, 3]⟩, none⟩,
    ⟨(some 81), .move (.tmp 86), none⟩,
    ⟨(some 87), .extract (.tmp 81) 0, none⟩,
    ⟨(some 88), .extract (.tmp 81) 1, none⟩,
    ⟨(some 16), .assign (.tmp 87), none⟩,
    ⟨(some 17), .assign (.tmp 88), none⟩] [8, 9, 11, 14, 16, 17])
  (.seq (.seq (.reg [⟨(some 89), .move (.tmp 16), none⟩,
    ⟨(some 90), .move (.tmp 8), none⟩,
    ⟨(some 91), .call ⟨.value (.func 25), #[(.tmp 89), (.tmp 90)], #[34, 34]⟩, none⟩,
    ⟨(some 92), .unOp .not 4 (.tmp 91), none⟩,
    ⟨(some 93), .move (.tmp 92), none⟩,
    ⟨(some 94), .move (.tmp 17), (some (some 93, false))⟩,
    ⟨(some 95), .move (.tmp 9), (some (some 93, false))⟩,
    ⟨(some 96), .binOp .neq 4 (.tmp 94) (.tmp 95) 4, (some (some 93, false))⟩,
    ⟨(some 97), .pick (.tmp 93) (.const (.bool true)) (.tmp 96), none⟩] [11, 14, 97])
  (.cond (.tmp 97) (.seq (.reg [⟨(some 6), .assign (.const (.bool false)), none⟩] [6])
  .ret)
  .skip))
  (.seq (.reg [⟨(some 15), .assign (.const (.int .i64 1)), none⟩] [11, 14, 15])
  (.seq (.reg [⟨(some 98), .move (.tmp 11), none⟩,
    ⟨(some 99), .move (.tmp 15), none⟩,
    ⟨(some 100), .call ⟨.value (.func 35), #[(.tmp 98), (.tmp 99)], #[34, 3]⟩, none⟩,
    ⟨(some 15), .assign (.tmp 100), none⟩] [14, 15])
  (.seq (.seq (.reg [⟨(some 101), .move (.tmp 15), none⟩,
    ⟨(some 102), .binOp .lss 3 (.tmp 101) (.const (.int .i64 0)) 3, none⟩] [14, 15, 102])
  (.cond (.tmp 102) (.seq (.reg [⟨(some 6), .assign (.const (.bool false)), none⟩] [6])
  .ret)
  .skip))
  (.seq (.seq (.reg [⟨(some 103), .move (.tmp 15), none⟩,
    ⟨(some 104), .move (.tmp 14), none⟩,
    ⟨(some 105), .binOp .neq 3 (.tmp 103) (.tmp 104) 3, none⟩] [105])
  (.cond (.tmp 105) (.seq (.reg [⟨(some 6), .assign (.const (.bool false)), none⟩] [6])
  .ret)
  .skip))
  (.seq (.reg [⟨(some 6), .assign (.const (.bool true)), none⟩] [6])
  .ret)))))))))))))))))))))))))
theorem laws_FnExactLoseLetter_k : fnOk Tryd.prog (fun _ => false) 9 = some (laws_FnExactLoseLetter_c.strip, 106, [.tmp 6]) := by kernel_rfl
/-- loop.example/g01062/laws.FnExactExtendUse: number 10, params [0, 1, 2] -/
def laws_FnExactExtendUse_c : ACode := (.seq (.reg [⟨(some 6), .assign (.const (.bool false)), none⟩] [0, 1, 2])
  (.seq (.reg [⟨(some 7), .assign (.const (.int .i64 1048576)), none⟩] [0, 1, 2, 7])
  (.seq (.reg [⟨(some 21), .move (.tmp 0), none⟩,
    ⟨(some 22), .move (.tmp 7), none⟩,
    ⟨(some 23), .call ⟨.value (.func 21), #[(.tmp 21), (.tmp 22)], #[31, 3]⟩, none⟩,
    ⟨(some 7), .assign (.tmp 23), none⟩] [0, 1, 2, 7])
  (.seq (.seq (.reg [⟨(some 24), .move (.tmp 7), none⟩,
    ⟨(some 25), .binOp .lss 3 (.tmp 24) (.const (.int .i64 0)) 3, none⟩] [0, 1, 2, 25])
  (.cond (.tmp 25) (.seq (.reg [⟨(some 6), .assign (.const (.bool true)), none⟩] [6])
  .ret)
  .skip))
  (.seq (.reg [⟨(some 27), .move (.tmp 0), none⟩,
    ⟨(some 28), .call ⟨.value (.func 23), #[(.tmp 27)], #[31]⟩, none⟩,
    ⟨(some 29), .move (.tmp 1), none⟩,
    ⟨(some 30), .move (.tmp 2), none⟩,
    ⟨(some 31), .call ⟨.value (.func 36), #[(.tmp 28), (.tmp 29), (.tmp 30)], #[34, 3, 3]⟩, none⟩,
    ⟨(some 26), .move (.tmp 31), none⟩,
    ⟨(some 32), .extract (.tmp 26) 0, none⟩,
    ⟨(some 33), .extract (.tmp 26) 1, none⟩,
    ⟨(some 34), .extract (.tmp 26) 2, none⟩,
    ⟨(some 8), .assign (.tmp 32), none⟩,
    ⟨(some 9), .assign (.tmp 33), none⟩,
    ⟨(some 10), .assign (.tmp 34), none⟩] [0, 1, 2, 8, 9, 10])
  (.seq (.reg [⟨(some 35), .move (.tmp 0), none⟩,
    ⟨(some 36), .call ⟨.value (.func 23), #[(.tmp 35)], #[31]⟩, none⟩,
    ⟨(some 11), .assign (.tmp 36), none⟩] [0, 1, 2, 8, 9, 10, 11])
  (.seq (.reg [⟨(some 38), .move (.tmp 11), none⟩,
    ⟨(some 39), .move (.tmp 1), none⟩,
    ⟨(some 40), .move (.tmp 2), none⟩,
    ⟨(some 41), .call ⟨.value (.func 37), #[(.tmp 38), (.tmp 39), (.tmp 40)], #[34, 3, 3]⟩, none⟩,
    ⟨(some 37), .move (.tmp 41), none⟩,
    ⟨(some 42), .extract (.tmp 37) 0, none⟩,
    ⟨(some 43), .extract (.tmp 37) 1, none⟩,
    ⟨(some 44), .extract (.tmp 37) 2, none⟩,
    ⟨(some 12), .assign (.tmp 42), none⟩,
    ⟨(some 13), .assign (.tmp 43), none⟩,
    ⟨(some 14), .assign (.tmp 44), none⟩] [0, 1, 2, 8, 9, 10, 11, 12, 13, 14])
  (.seq (.seq (.reg [⟨(some 45), .move (.tmp 12), none⟩,
    ⟨(some 46), .move (.tmp 8), none⟩,
    ⟨(some 47), .call ⟨.value (.func 25), #[(.tmp 45), (.tmp 46)], #[34, 34]⟩, none⟩,
    ⟨(some 48), .unOp .not 4 (.tmp 47), none⟩,
    ⟨(some 49), .move (.tmp 48), none⟩,
    ⟨(some 50), .move (.tmp 13), (some (some 49, false))⟩,
    ⟨(some 51), .move (.tmp 9), (some (some 49, false))⟩,
    ⟨(some 52), .binOp .neq 3 (.tmp 50) (.tmp 51) 3, (some (some 49, false))⟩,
    ⟨(some 53), .pick (.tmp 49) (.const (.bool true)) (.tmp 52), none⟩,
    ⟨(some 54), .move (.tmp 53), none⟩,
    ⟨(some 55), .move (.tmp 14), (some (some 54, false))⟩,
    ⟨(some 56), .move (.tmp 10), (some (some 54, false))⟩,
    ⟨(some 57), .binOp .neq 4 (.tmp 55) (.tmp 56) 4, (some (some 54, false))⟩,
    ⟨(some 58), .pick (.tmp 54) (.const (.bool true)) (.tmp 57), none⟩] [0, 1, 2, 8, 9, 10, 11, 12, 13, 14, 58])
  (.cond (.tmp 58) (.seq (.reg [⟨(some 6), .assign (.const (.bool false)), none⟩] [6])
  .ret)
  .skip))
  (.seq (.seq (.reg [⟨(some 59), .move (.tmp 11), none⟩,
    ⟨(some 60), .move (.tmp 0), none⟩,
    ⟨(some 61), .call ⟨.value (.func 23), #[(.tmp 60)], #[31]⟩, none⟩,
    ⟨(some 62), .call ⟨.value (.func 25), #[(.tmp 59), (.tmp 61)], #[34, 34]⟩, none⟩,
    ⟨(some 63), .unOp .not 4 (.tmp 62), none⟩] [0, 1, 2, 8, 9, 10, 11, 12, 13, 14, 63])
  (.cond (.tmp 63) (.seq (.reg [⟨(some 6), .assign (.const (.bool false)), none⟩] [6])
  .ret)
  .skip))
  (.seq (.reg [⟨(some 15), .assign (.const (.int .i64 1)), none⟩] [0, 1, 2, 8, 9, 10, 11, 12, 13, 14, 15])
  (.seq (.reg [⟨(some 64), .move (.tmp 11), none⟩,
    ⟨(some 65), .move (.tmp 15), none⟩,
    ⟨(some 66), .call ⟨.value (.func 34), #[(.tmp 64), (.tmp 65)], #[34, 3]⟩, none⟩,
    ⟨(some 15), .assign (.tmp 66), none⟩] [0, 1, 2, 8, 9, 10, 12, 13, 14, 15])
  (.seq (.seq (.reg [⟨(some 67), .move (.tmp 15), none⟩,
    ⟨(some 68), .binOp .lss 3 (.tmp 67) (.const (.int .i64 0)) 3, none⟩,
    ⟨(some 69), .move (.tmp 68), none⟩,
    ⟨(some 70), .move (.tmp 12), (some (some 69, false))⟩,
    ⟨(some 71), .move (.tmp 8), (some (some 69, false))⟩,
    ⟨(some 72), .call ⟨.value (.func 25), #[(.tmp 70), (.tmp 71)], #[34, 34]⟩, (some (some 69, false))⟩,
    ⟨(some 73), .unOp .not 4 (.tmp 72), (some (some 69, false))⟩,
    ⟨(some 74), .pick (.tmp 69) (.const (.bool true)) (.tmp 73), none⟩,
    ⟨(some 75), .move (.tmp 74), none⟩,
    ⟨(some 76), .move (.tmp 13), (some (some 75, false))⟩,
    ⟨(some 77), .move (.tmp 9), (some (some 75, false))⟩,
    ⟨(some 78), .binOp .neq 3 (.tmp 76) (.tmp 77) 3, (some (some 75, false))⟩,
    ⟨(some 79), .pick (.tmp 75) (.const (.bool true)) (.tmp 78), none⟩,
    ⟨(some 80), .move (.tmp 79), none⟩,
    ⟨(some 81), .move (.tmp 14), (some (some 80, false))⟩,
    ⟨(some 82), .move (.tmp 10), (some (some 80, false))⟩,
    ⟨(some 83), .binOp .neq 4 (.tmp 81) (.tmp 82) 4, (some (some 80, false))⟩,
    ⟨(some 84), .pick (.tmp 80) (.const (.bool true)) (.tmp 83), none⟩] [0, 1, 2, 8, 9, 10, 12, 84])
  (.cond (.tmp 84) (.seq (.reg [⟨(some 6), .assign (.const (.bool false)), none⟩] [6])
  .ret)
  .skip))
  (.seq (.reg [⟨(some 16), .assign (.const (.int .i64 1)), none⟩] [0, 1, 2, 8, 9, 10, 12, 16])
  (.seq (.reg [⟨(some 85), .move (.tmp 12), none⟩,
    ⟨(some 86), .move (.tmp 16), none⟩,
    ⟨(some 87), .call ⟨.value (.func 34), #[(.tmp 85), (.tmp 86)], #[34, 3]⟩, none⟩,
    ⟨(some 16), .assign (.tmp 87), none⟩] [0, 1, 2, 8, 9, 10, 12, 16])
  (.seq (.reg [⟨(some 17), .assign (.const (.int .i64 1)), none⟩] [0, 1, 2, 8, 9, 10, 12, 16, 17])
  (.seq (.reg [⟨(some 88), .move (.tmp 12), none⟩,
    ⟨(some 89), .move (.tmp 17), none⟩,
    ⟨(some 90), .call ⟨.value (.func 35), #[(.tmp 88), (.tmp 89)], #[34, 3]⟩, none⟩,
    ⟨(some 17), .assign (.tmp 90), none⟩] [0, 1, 2, 8, 9, 10, 12, 16, 17])
  (.seq (.seq (.reg [⟨(some 91), .move (.tmp 17), none⟩,
    ⟨(some 92), .binOp .lss 3 (.tmp 91) (.const (.int .i64 0)) 3, none⟩] [0, 1, 2, 8, 9, 10, 12, 16, 17, 92])
  (.cond (.tmp 92) (.seq (.reg [⟨(some 6), .assign (.const (.bool false)), none⟩] [6])
  .ret)
  .skip))
  (.seq (.seq (.reg [⟨(some 93), .move (.tmp 17), none⟩,
    ⟨(some 94), .move (.tmp 16), none⟩,
    ⟨(some 95), .binOp .neq 3 (.tmp 93) (.tmp 94) 3, none⟩] [0, 1, 2, 8, 9, 10, 12, 16, 95])
  (.cond (.tmp 95) (.seq (.reg [⟨(some 6), .assign (.const (.bool false)), none⟩] [6])
  .ret)
  .skip))
  (.seq (.reg [⟨(some 97), .move (.tmp 0), none⟩,
    ⟨(some 98), .call ⟨.value (.func 23), #[(.tmp 97)], #[31]⟩, none⟩,
    ⟨(some 99), .move (.tmp 1), none⟩,
    ⟨(some 100), .move (.tmp 2), none⟩,
    ⟨(some 101), .call ⟨.value (.func 37), #[(.tmp 98), (.tmp 99), (.tmp 100)], #[34, 3, 3]⟩, none⟩,
    ⟨(some 96), .move (.tmp 101), none⟩,
    ⟨(some 102), .extract (.tmp 96) 0, none⟩,
    ⟨(some 103), .extract (.tmp 96) 1, none⟩,
    ⟨(some 104), .extract (.tmp 96) 2, none⟩,
    ⟨(some 18), .assign (.tmp 102), none⟩,
    ⟨(some 19), .assign (.tmp 103), none⟩,
    ⟨(some 20), .assign (.tmp 104), none⟩] [8, 9, 10, 12, 16, 18, 19, 20])
  (.seq (.seq (.reg [⟨(some 105), .move (.tmp 18), none⟩,
    ⟨(some 106), .move (.tmp 8), none⟩,
    ⟨(some 107), .call ⟨.value (.func 25), #[(.tmp 105), (.tmp 106)], #[34, 34]⟩, none⟩,
    ⟨(some 108), .unOp .not 4 (.tmp 107), none⟩,
    ⟨(some 109), .move (.tmp 108), none⟩,
    ⟨(some 110), .move (.tmp 19), (some (some 109, false))⟩,
    ⟨(some 111), .move (.tmp 9), (some (some 109, false))⟩,
    ⟨(some 112), .binOp .neq 3 (.tmp 110) (.tmp 111) 3, (some (some 109, false))⟩,
    ⟨(some 113), .pick (.tmp 109) (.const (.bool true)) (.tmp 112), none⟩,
    ⟨(some 114), .move (.tmp 113), none⟩,
    ⟨(some 115), .move (.tmp 20), (some (some 114, false))⟩,
    ⟨(some 116), .move (.tmp 10), (some (some 114, false))⟩,
    ⟨(some 117), .binOp .neq 4 (.tmp 115) (.tmp 116) 4, (some (some 114, false))⟩,
    ⟨(some 118), .pick (.tmp 114) (.const (.bool true)) (.tmp 117), none⟩] [12, 16, 118])
  (.cond (.tmp 118) (.seq (.reg [⟨(some 6), .assign (.const (.bool false)), none⟩] [6])
  .ret)
  .skip))
  (.seq (.reg [⟨(some 17), .assign (.const (.int .i64 1)), none⟩] [12, 16, 17])
  (.seq (.reg [⟨(some 119), .move (.tmp 12), none⟩,
    ⟨(some 120), .move (.tmp 17), none⟩,
    ⟨(some 121), .call ⟨.value (.func 35), #[(.tmp 119), (.tmp 120)], #[34, 3]⟩, none⟩,
    ⟨(some 17), .assign (.tmp 121), none⟩] [16, 17])
  (.seq (.seq (.reg [⟨(some 122), .move (.tmp 17), none⟩,
    ⟨(some 123), .binOp .lss 3 (.tmp 122) (.const (.int .i64 0)) 3, none⟩] [16, 17, 123])
  (.cond (.tmp 123) (.seq (.reg [⟨(some 6), .assign (.const (.bool false)), none⟩] [6])
  .ret)
  .skip))
  (.seq (.seq (.reg [⟨(some 124), .move (.tmp 17), none⟩,
    ⟨(some 125), .move (.tmp 16), none⟩,
    ⟨(some 126), .binOp .neq 3 (.tmp 124) (.tmp 125) 3, none⟩] [126])
  (.cond (.tmp 126) (.seq (.reg [⟨(some 6), .assign (.const (.bool false)), none⟩] [6])
  .ret)
  .skip))
  (.seq (.reg [⟨(some 6), .assign (.const (.bool true)), none⟩] [6])
  .ret)))))))))))))))))))))))))
theorem laws_FnExactExtendUse_k : fnOk Tryd.prog (fun _ => false) 10 = some (laws_FnExactExtendUse_c.strip, 127, [.tmp 6]) := by kernel_rfl
/-- loop.example/g01062/laws.FnExactPostmarkText: number 11, params [0] -/
def laws_FnExactPostmarkText_c : ACode := (.seq (.reg [⟨(some 1), .box 23 (.tmp 0), none⟩,
    ⟨(some 2), .assign (.const (.bool false)), none⟩] [1])
  (.seq (.reg [⟨(some 3), .assign (.const (.int .i64 1048576)), none⟩] [1, 3])
  (.seq (.reg [⟨(some 8), .load 23 (.tmp 1), none⟩,
    ⟨(some 9), .move (.tmp 3), none⟩,
    ⟨(some 10), .call ⟨.value (.func 15), #[(.tmp 8), (.tmp 9)], #[23, 3]⟩, none⟩,
    ⟨(some 3), .assign (.tmp 10), none⟩] [1, 3])
  (.seq (.seq (.reg [⟨(some 11), .move (.tmp 3), none⟩,
    ⟨(some 12), .binOp .lss 3 (.tmp 11) (.const (.int .i64 0)) 3, none⟩] [1, 12])
  (.cond (.tmp 12) (.seq (.reg [⟨(some 2), .assign (.const (.bool true)), none⟩] [2])
  .ret)
  .skip))
  (.seq (.reg [⟨(some 14), .load 23 (.tmp 1), none⟩,
    ⟨(some 15), .call ⟨.value (.func 17), #[(.tmp 14)], #[23]⟩, none⟩,
    ⟨(some 16), .call ⟨.value (.func 38), #[(.tmp 15)], #[26]⟩, none⟩,
    ⟨(some 13), .move (.tmp 16), none⟩,
    ⟨(some 17), .extract (.tmp 13) 0, none⟩,
    ⟨(some 18), .extract (.tmp 13) 1, none⟩,
    ⟨(some 4), .assign (.tmp 17), none⟩,
    ⟨(some 5), .assign (.tmp 18), none⟩] [1, 4, 5])
  (.seq (.reg [⟨(some 20), .load 23 (.tmp 1), none⟩,
    ⟨(some 21), .call ⟨.value (.func 17), #[(.tmp 20)], #[23]⟩, none⟩,
    ⟨(some 22), .call ⟨.value (.func 39), #[(.tmp 21)], #[26]⟩, none⟩,
    ⟨(some 19), .move (.tmp 22), none⟩,
    ⟨(some 23), .extract (.tmp 19) 0, none⟩,
    ⟨(some 24), .extract (.tmp 19) 1, none⟩,
    ⟨(some 6), .assign (.tmp 23), none⟩,
    ⟨(some 7), .assign (.tmp 24), none⟩] [4, 5, 6, 7])
  (.seq (.seq (.reg [⟨(some 25), .move (.tmp 6), none⟩,
    ⟨(some 26), .move (.tmp 4), none⟩,
    ⟨(some 27), .binOp .neq 9 (.tmp 25) (.tmp 26) 9, none⟩,
    ⟨(some 28), .move (.tmp 27), none⟩,
    ⟨(some 29), .move (.tmp 7), (some (some 28, false))⟩,
    ⟨(some 30), .move (.tmp 5), (some (some 28, false))⟩,
    ⟨(some 31), .binOp .neq 4 (.tmp 29) (.tmp 30) 4, (some (some 28, false))⟩,
    ⟨(some 32), .pick (.tmp 28) (.const (.bool true)) (.tmp 31), none⟩] [32])
  (.cond (.tmp 32) (.seq (.reg [⟨(some 2), .assign (.const (.bool false)), none⟩] [2])
  .ret)
  .skip))
  (.seq (.reg [⟨(some 2), .assign (.const (.bool true)), none⟩] [2])
  .ret))))))))
theorem laws_FnExactPostmarkText_k : fnOk Tryd.prog (fun _ => false) 11 = some (laws_FnExactPostmarkText_c.strip, 33, [.tmp 2]) := by kernel_rfl
/-- loop.example/g01062/laws.FnExactReadMarks: number 12, params [0, 1, 2] -/
def laws_FnExactReadMarks_c : ACode := (.seq (.reg [⟨(some 6), .assign (.const (.bool false)), none⟩] [0, 1, 2])
  (.seq (.seq (.reg [⟨(some 18), .move (.tmp 1), none⟩,
    ⟨(some 19), .call ⟨.builtin .len, #[(.tmp 18)], #[9]⟩, none⟩,
    ⟨(some 20), .binOp .gtr 3 (.tmp 19) (.const (.int .i64 1048576)) 3, none⟩] [0, 1, 2, 20])
  (.cond (.tmp 20) (.seq (.reg [⟨(some 6), .assign (.const (.bool true)), none⟩] [6])
  .ret)
  .skip))
  (.seq (.reg [⟨(some 7), .assign (.const (.int .i64 1048576)), none⟩] [0, 1, 2, 7])
  (.seq (.reg [⟨(some 21), .move (.tmp 0), none⟩,
    ⟨(some 22), .move (.tmp 7), none⟩,
    ⟨(some 23), .call ⟨.value (.func 21), #[(.tmp 21), (.tmp 22)], #[31, 3]⟩, none⟩,
    ⟨(some 7), .assign (.tmp 23), none⟩] [0, 1, 2, 7])
  (.seq (.seq (.reg [⟨(some 24), .move (.tmp 7), none⟩,
    ⟨(some 25), .binOp .lss 3 (.tmp 24) (.const (.int .i64 0)) 3, none⟩] [0, 1, 2, 25])
  (.cond (.tmp 25) (.seq (.reg [⟨(some 6), .assign (.const (.bool true)), none⟩] [6])
  .ret)
  .skip))
  (.seq (.reg [⟨(some 27), .move (.tmp 0), none⟩,
    ⟨(some 28), .call ⟨.value (.func 23), #[(.tmp 27)], #[31]⟩, none⟩,
    ⟨(some 29), .move (.tmp 1), none⟩,
    ⟨(some 30), .move (.tmp 2), none⟩,
    ⟨(some 31), .call ⟨.value (.func 40), #[(.tmp 28), (.tmp 29), (.tmp 30)], #[34, 9, 3]⟩, none⟩,
    ⟨(some 26), .move (.tmp 31), none⟩,
    ⟨(some 32), .extract (.tmp 26) 0, none⟩,
    ⟨(some 33), .extract (.tmp 26) 1, none⟩,
    ⟨(some 8), .assign (.tmp 32), none⟩,
    ⟨(some 9), .assign (.tmp 33), none⟩] [0, 1, 2, 8, 9])
  (.seq (.reg [⟨(some 34), .move (.tmp 0), none⟩,
    ⟨(some 35), .call ⟨.value (.func 23), #[(.tmp 34)], #[31]⟩, none⟩,
    ⟨(some 10), .assign (.tmp 35), none⟩] [0, 1, 2, 8, 9, 10])
  (.seq (.reg [⟨(some 37), .move (.tmp 10), none⟩,
    ⟨(some 38), .move (.tmp 1), none⟩,
    ⟨(some 39), .move (.tmp 2), none⟩,
    ⟨(some 40), .call ⟨.value (.func 41), #[(.tmp 37), (.tmp 38), (.tmp 39)], #[34, 9, 3]⟩, none⟩,
    ⟨(some 36), .move (.tmp 40), none⟩,
    ⟨(some 41), .extract (.tmp 36) 0, none⟩,
    ⟨(some 42), .extract (.tmp 36) 1, none⟩,
    ⟨(some 11), .assign (.tmp 41), none⟩,
    ⟨(some 12), .assign (.tmp 42), none⟩] [0, 1, 2, 8, 9, 10, 11, 12])
  (.seq (.seq (.reg [⟨(some 43), .move (.tmp 11), none⟩,
    ⟨(some 44), .move (.tmp 8), none⟩,
    ⟨(some 45), .call ⟨.value (.func 42), #[(.tmp 43), (.tmp 44)], #[51, 51]⟩, none⟩,
    ⟨(some 46), .unOp .not 4 (.tmp 45), none⟩,
    ⟨(some 47), .move (.tmp 46), none⟩,
    ⟨(some 48), .move (.tmp 12), (some (some 47, false))⟩,
    ⟨(some 49), .move (.tmp 9), (some (some 47, false))⟩,
    ⟨(some 50), .binOp .neq 4 (.tmp 48) (.tmp 49) 4, (some (some 47, false))⟩,
    ⟨(some 51), .pick (.tmp 47) (.const (.bool true)) (.tmp 50), none⟩] [0, 1, 2, 8, 9, 10, 11, 12, 51])
  (.cond (.tmp 51) (.seq (.reg [⟨(some 6), .assign (.const (.bool false)), none⟩] [6])
  .ret)
  .skip))
  (.seq (.seq (.reg [⟨(some 52), .move (.tmp 10), none⟩,
    ⟨(some 53), .move (.tmp 0), none⟩,
    ⟨(some 54), .call ⟨.value (.func 23), #[(.tmp 53)], #[31]⟩, none⟩,
    ⟨(some 55), .call ⟨.value (.func 25), #[(.tmp 52), (.tmp 54)], #[34, 34]⟩, none⟩,
    ⟨(some 56), .unOp .not 4 (.tmp 55), none⟩] [0, 1, 2, 8, 9, 10, 11, 12, 56])
  (.cond (.tmp 56) (.seq (.reg [⟨(some 6), .assign (.const (.bool false)), none⟩] [6])
  .ret)
  .skip))
  (.seq (.reg [⟨(some 13), .assign (.const (.int .i64 1)), none⟩] [0, 1, 2, 8, 9, 10, 11, 12, 13])
  (.seq (.reg [⟨(some 57), .move (.tmp 10), none⟩,
    ⟨(some 58), .move (.tmp 13), none⟩,
    ⟨(some 59), .call ⟨.value (.func 34), #[(.tmp 57), (.tmp 58)], #[34, 3]⟩, none⟩,
    ⟨(some 13), .assign (.tmp 59), none⟩] [0, 1, 2, 8, 9, 11, 12, 13])
  (.seq (.seq (.reg [⟨(some 60), .move (.tmp 13), none⟩,
    ⟨(some 61), .binOp .lss 3 (.tmp 60) (.const (.int .i64 0)) 3, none⟩,
    ⟨(some 62), .move (.tmp 61), none⟩,
    ⟨(some 63), .move (.tmp 11), (some (some 62, false))⟩,
    ⟨(some 64), .move (.tmp 8), (some (some 62, false))⟩,
    ⟨(some 65), .call ⟨.value (.func 42), #[(.tmp 63), (.tmp 64)], #[51, 51]⟩, (some (some 62, false))⟩,
    ⟨(some 66), .unOp .not 4 (.tmp 65), (some (some 62, false))⟩,
    ⟨(some 67), .pick (.tmp 62) (.const (.bool true)) (.tmp 66), none⟩,
    ⟨(some 68), .move (.tmp 67), none⟩,
    ⟨(some 69), .move (.tmp 12), (some (some 68, false))⟩,
    ⟨(some 70), .move (.tmp 9), (some (some 68, false))⟩,
    ⟨(some 71), .binOp .neq 4 (.tmp 69) (.tmp 70) 4, (some (some 68, false))⟩,
    ⟨(some 72), .pick (.tmp 68) (.const (.bool true)) (.tmp 71), none⟩] [0, 1, 2, 8, 9, 11, 72])
  (.cond (.tmp 72) (.seq (.reg [⟨(some 6), .assign (.const (.bool false)), none⟩] [6])
  .ret)
  .skip))
  (.seq (.reg [⟨(some 14), .assign (.const (.int .i64 1)), none⟩] [0, 1, 2, 8, 9, 11, 14])
  (.seq (.reg [⟨(some 73), .move (.tmp 11), none⟩,
    ⟨(some 74), .move (.tmp 14), none⟩,
    ⟨(some 75), .call ⟨.value (.func 43), #[(.tmp 73), (.tmp 74)], #[51, 3]⟩, none⟩,
    ⟨(some 14), .assign (.tmp 75), none⟩] [0, 1, 2, 8, 9, 11, 14])
  (.seq (.reg [⟨(some 15), .assign (.const (.int .i64 1)), none⟩] [0, 1, 2, 8, 9, 11, 14, 15])
  (.seq (.reg [⟨(some 76), .move (.tmp 11), none⟩,
    ⟨(some 77), .move (.tmp 15), none⟩,
    ⟨(some 78), .call ⟨.value (.func 44), #[(.tmp 76), (.tmp 77)], #[51, 3]⟩, none⟩,
    ⟨(some 15), .assign (.tmp 78), none⟩] [0, 1, 2, 8, 9, 11, 14, 15])
  (.seq (.seq (.reg [⟨(some 79), .move (.tmp 15), none⟩,
    ⟨(some 80), .binOp .lss 3 (.tmp 79) (.const (.int .i64 0)) 3, none⟩] [0, 1, 2, 8, 9, 11, 14, 15, 80])
  (.cond (.tmp 80) (.seq (.reg [⟨(some 6), .assign (.const (.bool false)), none⟩] [6])
  .ret)
  .skip))
  (.seq (.seq (.reg [⟨(some 81), .move (.tmp 15), none⟩,
    ⟨(some 82), .move (.tmp 14), none⟩,
    ⟨(some 83), .binOp .neq 3 (.tmp 81) (.tmp 82) 3, none⟩] [0, 1, 2, 8, 9, 11, 14, 83])
  (.cond (.tmp 83) (.seq (.reg [⟨(some 6), .assign (.const (.bool false)), none⟩] [6])
  .ret)
  .skip))
  (.seq (.reg [⟨(some 85), .move (.tmp 0), none⟩,
    ⟨(some 86), .call ⟨.value (.func 23), #[(.tmp 85)], #[31]⟩, none⟩,
    ⟨(some 87), .move (.tmp 1), none⟩,
    ⟨(some 88), .move (.tmp 2), none⟩,
    ⟨(some 89), .call ⟨.value (.func 41), #[(.tmp 86), (.tmp 87), (.tmp 88)], #[34, 9, 3]⟩, none⟩,
    ⟨(some 84), .move (.tmp 89), none⟩,
    ⟨(some 90), .extract (.tmp 84) 0, none⟩,
    ⟨(some 91), .extract (.tmp 84) 1, none⟩,
    ⟨(some 16), .assign (.tmp 90), none⟩,
    ⟨(some 17), .assign (.tmp 91), none⟩] [8, 9, 11, 14, 16, 17])
  (.seq (.seq (.reg [⟨(some 92), .move (.tmp 16), none⟩,
    ⟨(some 93), .move (.tmp 8), none⟩,
    ⟨(some 94), .call ⟨.value (.func 42), #[(.tmp 92), (.tmp 93)], #[51, 51]⟩, none⟩,
    ⟨(some 95), .unOp .not 4 (.tmp 94), none⟩,
    ⟨(some 96), .move (.tmp 95), none⟩,
    ⟨(some 97), .move (.tmp 17), (some (some 96, false))⟩,
    ⟨(some 98), .move (.tmp 9), (some (some 96, false))⟩,
    ⟨(some 99), .binOp .neq 4 (.tmp 97) (.tmp 98) 4, (some (some 96, false))⟩,
    ⟨(some 100), .pick (.tmp 96) (.const (.bool true)) (.tmp 99), none⟩] [11, 14, 100])
  (.cond (.tmp 100) (.seq (.reg [⟨(some 6), .assign (.const (.bool false)), none⟩] [6])
  .ret)
  .skip))
  (.seq (.reg [⟨(some 15), .assign (.const (.int .i64 1)), none⟩] [11, 14, 15])
  (.seq (.reg [⟨(some 101), .move (.tmp 11), none⟩,
    ⟨(some 102), .move (.tmp 15), none⟩,
    ⟨(some 103), .call ⟨.value (.func 44), #[(.tmp 101), (.tmp 102)], #[51, 3]⟩, none⟩,
    ⟨(some 15), .assign (.tmp 103), none⟩] [14, 15])
  (.seq (.seq (.reg [⟨(some 104), .move (.tmp 15), none⟩,
    ⟨(some 105), .binOp .lss 3 (.tmp 104) (.const (.int .i64 0)) 3, none⟩] [14, 15, 105])
  (.cond (.tmp 105) (.seq (.reg [⟨(some 6), .assign (.const (.bool false)), none⟩] [6])
  .ret)
  .skip))
  (.seq (.seq (.reg [⟨(some 106), .move (.tmp 15), none⟩,
    ⟨(some 107), .move (.tmp 14), none⟩,
    ⟨(some 108), .binOp .neq 3 (.tmp 106) (.tmp 107) 3, none⟩] [108])
  (.cond (.tmp 108) (.seq (.reg [⟨(some 6), .assign (.const (.bool false)), none⟩] [6])
  .ret)
  .skip))
  (.seq (.reg [⟨(some 6), .assign (.const (.bool true)), none⟩] [6])
  .ret))))))))))))))))))))))))))
theorem laws_FnExactReadMarks_k : fnOk Tryd.prog (fun _ => false) 12 = some (laws_FnExactReadMarks_c.strip, 109, [.tmp 6]) := by kernel_rfl
/-- loop.example/g01062/laws.FnExactTownsOn: number 13, params [0, 1] -/
def laws_FnExactTownsOn_c : ACode := (.seq (.reg [⟨(some 4), .assign (.const (.bool false)), none⟩] [0, 1])
  (.seq (.reg [⟨(some 5), .assign (.const (.int .i64 1048576)), none⟩] [0, 1, 5])
  (.seq (.reg [⟨(some 16), .move (.tmp 0), none⟩,
    ⟨(some 17), .move (.tmp 5), none⟩,
    ⟨(some 18), .call ⟨.value (.func 21), #[(.tmp 16), (.tmp 17)], #[31, 3]⟩, none⟩,
    ⟨(some 5), .assign (.tmp 18), none⟩] [0, 1, 5])
  (.seq (.seq (.reg [⟨(some 19), .move (.tmp 5), none⟩,
    ⟨(some 20), .binOp .lss 3 (.tmp 19) (.const (.int .i64 0)) 3, none⟩] [0, 1, 20])
  (.cond (.tmp 20) (.seq (.reg [⟨(some 4), .assign (.const (.bool true)), none⟩] [4])
  .ret)
  .skip))
  (.seq (.reg [⟨(some 22), .move (.tmp 0), none⟩,
    ⟨(some 23), .call ⟨.value (.func 23), #[(.tmp 22)], #[31]⟩, none⟩,
    ⟨(some 24), .move (.tmp 1), none⟩,
    ⟨(some 25), .call ⟨.value (.func 45), #[(.tmp 23), (.tmp 24)], #[34, 3]⟩, none⟩,
    ⟨(some 21), .move (.tmp 25), none⟩,
    ⟨(some 26), .extract (.tmp 21) 0, none⟩,
    ⟨(some 27), .extract (.tmp 21) 1, none⟩,
    ⟨(some 6), .assign (.tmp 26), none⟩,
    ⟨(some 7), .assign (.tmp 27), none⟩] [0, 1, 6, 7])
  (.seq (.reg [⟨(some 28), .move (.tmp 0), none⟩,
    ⟨(some 29), .call ⟨.value (.func 23), #[(.tmp 28)], #[31]⟩, none⟩,
    ⟨(some 8), .assign (.tmp 29), none⟩] [0, 1, 6, 7, 8])
  (.seq (.reg [⟨(some 31), .move (.tmp 8), none⟩,
    ⟨(some 32), .move (.tmp 1), none⟩,
    ⟨(some 33), .call ⟨.value (.func 46), #[(.tmp 31), (.tmp 32)], #[34, 3]⟩, none⟩,
    ⟨(some 30), .move (.tmp 33), none⟩,
    ⟨(some 34), .extract (.tmp 30) 0, none⟩,
    ⟨(some 35), .extract (.tmp 30) 1, none⟩,
    ⟨(some 9), .assign (.tmp 34), none⟩,
    ⟨(some 10), .assign (.tmp 35), none⟩] [0, 1, 6, 7, 8, 9, 10])
  (.seq (.seq (.reg [⟨(some 36), .move (.tmp 9), none⟩,
    ⟨(some 37), .move (.tmp 6), none⟩,
    ⟨(some 38), .call ⟨.value (.func 47), #[(.tmp 36), (.tmp 37)], #[57, 57]⟩, none⟩,
    ⟨(some 39), .unOp .not 4 (.tmp 38), none⟩,
    ⟨(some 40), .move (.tmp 39), none⟩,
    ⟨(some 41), .move (.tmp 10), (some (some 40, false))⟩,
    ⟨(some 42), .move (.tmp 7), (some (some 40, false))⟩,
    ⟨(some 43), .binOp .neq 4 (.tmp 41) (.tmp 42) 4, (some (some 40, false))⟩,
    ⟨(some 44), .pick (.tmp 40) (.const (.bool true)) (.tmp 43), none⟩] [0, 1, 6, 7, 8, 9, 10, 44])
  (.cond (.tmp 44) (.seq (.reg [⟨(some 4), .assign (.const (.bool false)), none⟩] [4])
  .ret)
  .skip))
  (.seq (.seq (.reg [⟨(some 45), .move (.tmp 8), none⟩,
    ⟨(some 46), .move (.tmp 0), none⟩,
    ⟨(some 47), .call ⟨.value (.func 23), #[(.tmp 46)], #[31]⟩, none⟩,
    ⟨(some 48), .call ⟨.value (.func 25), #[(.tmp 45), (.tmp 47)], #[34, 34]⟩, none⟩,
    ⟨(some 49), .unOp .not 4 (.tmp 48), none⟩] [0, 1, 6, 7, 8, 9, 10, 49])
  (.cond (.tmp 49) (.seq (.reg [⟨(some 4), .assign (.const (.bool false)), none⟩] [4])
  .ret)
  .skip))
  (.seq (.reg [⟨(some 11), .assign (.const (.int .i64 1)), none⟩] [0, 1, 6, 7, 8, 9, 10, 11])
  (.seq (.reg [⟨(some 50), .move (.tmp 8), none⟩,
    ⟨(some 51), .move (.tmp 11), none⟩,
    ⟨(some 52), .call ⟨.value (.func 34), #[(.tmp 50), (.tmp 51)], #[34, 3]⟩, none⟩,
    ⟨(some 11), .assign (.tmp 52), none⟩] [0, 1, 6, 7, 9, 10, 11])
  (.seq (.seq (.reg [⟨(some 53), .move (.tmp 11), none⟩,
    ⟨(some 54), .binOp .lss 3 (.tmp 53) (.const (.int .i64 0)) 3, none⟩,
    ⟨(some 55), .move (.tmp 54), none⟩,
    ⟨(some 56), .move (.tmp 9), (some (some 55, false))⟩,
    ⟨(some 57), .move (.tmp 6), (some (some 55, false))⟩,
    ⟨(some 58), .call ⟨.value (.func 47), #[(.tmp 56), (.tmp 57)], #[57, 57]⟩, (some (some 55, false))⟩,
    ⟨(some 59), .unOp .not 4 (.tmp 58), (some (some 55, false))⟩,
    ⟨(some 60), .pick (.tmp 55) (.const (.bool true)) (.tmp 59), none⟩,
    ⟨(some 61), .move (.tmp 60), none⟩,
    ⟨(some 62), .move (.tmp 10), (some (some 61, false))⟩,
    ⟨(some 63), .move (.tmp 7), (some (some 61, false))⟩,
    ⟨(some 64), .binOp .neq 4 (.tmp 62) (.tmp 63) 4, (some (some 61, false))⟩,
    ⟨(some 65), .pick (.tmp 61) (.const (.bool true)) (.tmp 64), none⟩] [0, 1, 6, 7, 9, 65])
  (.cond (.tmp 65) (.seq (.reg [⟨(some 4), .assign (.const (.bool false)), none⟩] [4])
  .ret)
  .skip))
  (.seq (.reg [⟨(some 12), .assign (.const (.int .i64 1)), none⟩] [0, 1, 6, 7, 9, 12])
  (.seq (.reg [⟨(some 66), .move (.tmp 9), none⟩,
    ⟨(some 67), .move (.tmp 12), none⟩,
    ⟨(some 68), .call ⟨.value (.func 48), #[(.tmp 66), (.tmp 67)], #[57, 3]⟩, none⟩,
    ⟨(some 12), .assign (.tmp 68), none⟩] [0, 1, 6, 7, 9, 12])
  (.seq (.reg [⟨(some 13), .assign (.const (.int .i64 1)), none⟩] [0, 1, 6, 7, 9, 12, 13])
  (.seq (.reg [⟨(some 69), .move (.tmp 9), none⟩,
    ⟨(some 70), .move (.tmp 13), none⟩,
    ⟨(some 71), .call ⟨.value (.func 49), #[(.tmp 69), (.tmp 70)], #[57, 3]⟩, none⟩,
    ⟨(some 13), .assign (.tmp 71), none⟩] [0, 1, 6, 7, 9, 12, 13])
  (.seq (.seq (.reg [⟨(some 72), .move (.tmp 13), none⟩,
    ⟨(some 73), .binOp .lss 3 (.tmp 72) (.const (.int .i64 0)) 3, none⟩] [0, 1, 6, 7, 9, 12, 13, 73])
  (.cond (.tmp 73) (.seq (.reg [⟨(some 4), .assign (.const (.bool false)), none⟩] [4])
  .ret)
  .skip))
  (.seq (.seq (.reg [⟨(some 74), .move (.tmp 13), none⟩,
    ⟨(some 75), .move (.tmp 12), none⟩,
    ⟨(some 76), .binOp .neq 3 (.tmp 74) (.tmp 75) 3, none⟩] [0, 1, 6, 7, 9, 12, 76])
  (.cond (.tmp 76) (.seq (.reg [⟨(some 4), .assign (.const (.bool false)), none⟩] [4])
  .ret)
  .skip))
  (.seq (.reg [⟨(some 78), .move (.tmp 0), none⟩,
    ⟨(some 79), .call ⟨.value (.func 23), #[(.tmp 78)], #[31]⟩, none⟩,
    ⟨(some 80), .move (.tmp 1), none⟩,
    ⟨(some 81), .call ⟨.value (.func 46), #[(.tmp 79), (.tmp 80)], #[34, 3]⟩, none⟩,
    ⟨(some 77), .move (.tmp 81), none⟩,
    ⟨(some 82), .extract (.tmp 77) 0, none⟩,
    ⟨(some 83), .extract (.tmp 77) 1, none⟩,
    ⟨(some 14), .assign (.tmp 82), none⟩,
    ⟨(some 15), .assign (.tmp 83), none⟩] [6, 7, 9, 12, 14, 15])
  (.seq (.seq (.reg [⟨(some 84), .move (.tmp 14), none⟩,
    ⟨(some 85), .move (.tmp 6), none⟩,
    ⟨(some 86), .call ⟨.value (.func 47), #[(.tmp 84), (.tmp 85)], #[57, 57]⟩, none⟩,
    ⟨(some 87), .unOp .not 4 (.tmp 86), none⟩,
    ⟨(some 88), .move (.tmp 87), none⟩,
    ⟨(some 89), .move (.tmp 15), (some (some 88, false))⟩,
    ⟨(some 90), .move (.tmp 7), (some (some 88, false))⟩,
    ⟨(some 91), .binOp .neq 4 (.tmp 89) (.tmp 90) 4, (some (some 88, false))⟩,
    ⟨(some 92), .pick (.tmp 88) (.const (.bool true)) (.tmp 91), none⟩] [9, 12, 92])
  (.cond (.tmp 92) (.seq (.reg [⟨(some 4), .assign (.const (.bool false)), none⟩] [4])
  .ret)
  .skip))
  (.seq (.reg [⟨(some 13), .assign (.const (.int .i64 1)), none⟩] [9, 12, 13])
  (.seq (.reg [⟨(some 93), .move (.tmp 9), none⟩,
    ⟨(some 94), .move (.tmp 13), none⟩,
    ⟨(some 95), .call ⟨.value (.func 49), #[(.tmp 93), (.tmp 94)], #[57, 3]⟩, none⟩,
    ⟨(some 13), .assign (.tmp 95), none⟩] [12, 13])
  (.seq (.seq (.reg [⟨(some 96), .move (.tmp 13), none⟩,
    ⟨(some 97), .binOp .lss 3 (.tmp 96) (.const (.int .i64 0)) 3, none⟩] [12, 13, 97])
  (.cond (.tmp 97) (.seq (.reg [⟨(some 4), .assign (.const (.bool false)), none⟩] [4])
  .ret)
  .skip))
  (.seq (.seq (.reg [⟨(some 98), .move (.tmp 13), none⟩,
    ⟨(some 99), .move (.tmp 12), none⟩,
    ⟨(some 100), .binOp .neq 3 (.tmp 98) (.tmp 99) 3, none⟩] [100])
  (.cond (.tmp 100) (.seq (.reg [⟨(some 4), .assign (.const (.bool false)), none⟩] [4])
  .ret)
  .skip))
  (.seq (.reg [⟨(some 4), .assign (.const (.bool true)), none⟩] [4])
  .ret)))))))))))))))))))))))))
theorem laws_FnExactTownsOn_k : fnOk Tryd.prog (fun _ => false) 13 = some (laws_FnExactTownsOn_c.strip, 101, [.tmp 4]) := by kernel_rfl
/-- head: [0, 3, 6, 7, 10] -/
def laws_FnPostmarks_l0 : ACode := (.seq (.seq (.reg [⟨(some 76), .move (.tmp 10), none⟩,
    ⟨(some 77), .move (.tmp 3), none⟩,
    ⟨(some 78), .call ⟨.builtin .len, #[(.tmp 77)], #[34]⟩, none⟩,
    ⟨(some 79), .binOp .lss 3 (.tmp 76) (.tmp 78) 3, none⟩,
    ⟨(some 80), .move (.tmp 79), none⟩,
    ⟨(some 81), .move (.tmp 7), (some (some 80, true))⟩,
    ⟨(some 82), .pick (.tmp 80) (.tmp 81) (.const (.bool false)), none⟩] [0, 3, 6, 7, 10, 82])
  (.cond (.tmp 82) .skip
  (.exit 0)))
  (.seq (.block 1 (.seq (.reg [⟨(some 86), .move (.tmp 3), none⟩,
    ⟨(some 87), .move (.tmp 10), none⟩,
    ⟨(some 88), .indexAddr 34 (.tmp 86) (.tmp 87), none⟩,
    ⟨(some 89), .load 26 (.tmp 88), none⟩,
    ⟨(some 90), .call ⟨.value (.func 20), #[(.tmp 89)], #[26]⟩, none⟩,
    ⟨(some 85), .move (.tmp 90), none⟩,
    ⟨(some 91), .extract (.tmp 85) 0, none⟩,
    ⟨(some 92), .extract (.tmp 85) 1, none⟩,
    ⟨(some 11), .assign (.tmp 91), none⟩,
    ⟨(some 12), .assign (.tmp 92), none⟩] [0, 3, 6, 7, 10, 11, 12])
  (.seq (.reg [⟨(some 94), .move (.tmp 6), none⟩,
    ⟨(some 95), .move (.tmp 11), none⟩,
    ⟨(some 96), .move (.tmp 3), none⟩,
    ⟨(some 97), .move (.tmp 10), none⟩,
    ⟨(some 98), .indexAddr 34 (.tmp 96) (.tmp 97), none⟩,
    ⟨(some 99), .fieldAddr 26 (.tmp 98) 3, none⟩,
    ⟨(some 100), .load 3 (.tmp 99), none⟩,
    ⟨(some 101), .call ⟨.value (.func 41), #[(.tmp 94), (.tmp 95), (.tmp 100)], #[34, 9, 3]⟩, none⟩,
    ⟨(some 93), .move (.tmp 101), none⟩,
    ⟨(some 102), .extract (.tmp 93) 0, none⟩,
    ⟨(some 103), .extract (.tmp 93) 1, none⟩,
    ⟨(some 13), .assign (.tmp 102), none⟩,
    ⟨(some 14), .assign (.tmp 103), none⟩] [0, 3, 6, 7, 10, 12, 13, 14])
  (.seq (.reg [⟨(some 104), .move (.tmp 12), none⟩,
    ⟨(some 105), .unOp .not 4 (.tmp 104), none⟩,
    ⟨(some 106), .move (.tmp 105), none⟩,
    ⟨(some 107), .move (.tmp 14), (some (some 106, false))⟩,
    ⟨(some 108), .unOp .not 4 (.tmp 107), (some (some 106, false))⟩,
    ⟨(some 109), .pick (.tmp 106) (.const (.bool true)) (.tmp 108), none⟩,
    ⟨(some 110), .move (.tmp 109), none⟩,
    ⟨(some 111), .move (.tmp 13), (some (some 110, false))⟩,
    ⟨(some 112), .move (.tmp 3), (some (some 110, false))⟩,
    ⟨(some 113), .move (.tmp 10), (some (some 110, false))⟩,
    ⟨(some 114), .indexAddr 34 (.tmp 112) (.tmp 113), (some (some 110, false))⟩,
    ⟨(some 115), .fieldAddr 26 (.tmp 114) 0, (some (some 110, false))⟩,
    ⟨(some 116), .load 3 (.tmp 115), (some (some 110, false))⟩,
    ⟨(some 117), .call ⟨.value (.func 53), #[(.tmp 111), (.tmp 116)], #[51, 3]⟩, (some (some 110, false))⟩,
    ⟨(some 118), .unOp .not 4 (.tmp 117), (some (some 110, false))⟩,
    ⟨(some 119), .pick (.tmp 110) (.const (.bool true)) (.tmp 118), none⟩] [0, 3, 6, 7, 10, 119])
  (.cond (.tmp 119) (.seq (.reg [⟨(some 2), .assign (.const (.bool false)), none⟩] [2])
  .ret)
  .skip)))))
  (.reg [⟨(some 83), .move (.tmp 10), none⟩,
    ⟨(some 84), .binOp .add 3 (.tmp 83) (.const (.int .i64 1)) 3, none⟩,
    ⟨(some 10), .assign (.tmp 84), none⟩] [0, 3, 6, 7, 10])))
/-- head: [0, 15, 16, 17, 18, 19, 23] -/
def laws_FnPostmarks_l1 : ACode := (.seq (.seq (.reg [⟨(some 152), .move (.tmp 23), none⟩,
    ⟨(some 153), .move (.tmp 15), none⟩,
    ⟨(some 154), .call ⟨.builtin .len, #[(.tmp 153)], #[34]⟩, none⟩,
    ⟨(some 155), .binOp .lss 3 (.tmp 152) (.tmp 154) 3, none⟩,
    ⟨(some 156), .move (.tmp 155), none⟩,
    ⟨(some 157), .move (.tmp 19), (some (some 156, true))⟩,
    ⟨(some 158), .pick (.tmp 156) (.tmp 157) (.const (.bool false)), none⟩] [0, 15, 16, 17, 18, 19, 23, 158])
  (.cond (.tmp 158) .skip
  (.exit 2)))
  (.seq (.block 3 (.seq (.reg [⟨(some 161), .move (.tmp 15), none⟩,
    ⟨(some 162), .move (.tmp 23), none⟩,
    ⟨(some 163), .indexAddr 34 (.tmp 161) (.tmp 162), none⟩,
    ⟨(some 164), .fieldAddr 26 (.tmp 163) 1, none⟩,
    ⟨(some 165), .load 9 (.tmp 164), none⟩,
    ⟨(some 166), .move (.tmp 16), none⟩,
    ⟨(some 167), .binOp .eql 9 (.tmp 165) (.tmp 166) 9, none⟩,
    ⟨(some 168), .move (.tmp 167), none⟩,
    ⟨(some 169), .move (.tmp 15), (some (some 168, true))⟩,
    ⟨(some 170), .move (.tmp 23), (some (some 168, true))⟩,
    ⟨(some 171), .indexAddr 34 (.tmp 169) (.tmp 170), (some (some 168, true))⟩,
    ⟨(some 172), .fieldAddr 26 (.tmp 171) 4, (some (some 168, true))⟩,
    ⟨(some 173), .load 3 (.tmp 172), (some (some 168, true))⟩,
    ⟨(some 174), .move (.tmp 18), (some (some 168, true))⟩,
    ⟨(some 175), .binOp .gtr 3 (.tmp 173) (.tmp 174) 3, (some (some 168, true))⟩,
    ⟨(some 176), .pick (.tmp 168) (.tmp 175) (.const (.bool false)), none⟩,
    ⟨(some 177), .move (.tmp 176), none⟩,
    ⟨(some 178), .move (.tmp 15), (some (some 177, false))⟩,
    ⟨(some 179), .move (.tmp 23), (some (some 177, false))⟩,
    ⟨(some 180), .indexAddr 34 (.tmp 178) (.tmp 179), (some (some 177, false))⟩,
    ⟨(some 181), .fieldAddr 26 (.tmp 180) 0, (some (some 177, false))⟩,
    ⟨(some 182), .load 3 (.tmp 181), (some (some 177, false))⟩,
    ⟨(some 183), .move (.tmp 17), (some (some 177, false))⟩,
    ⟨(some 184), .binOp .eql 3 (.tmp 182) (.tmp 183) 3, (some (some 177, false))⟩,
    ⟨(some 185), .move (.tmp 184), (some (some 177, false))⟩,
    ⟨(some 186), .move (.tmp 15), (some (some 185, true))⟩,
    ⟨(some 187), .move (.tmp 23), (some (some 185, true))⟩,
    ⟨(some 188), .indexAddr 34 (.tmp 186) (.tmp 187), (some (some 185, true))⟩,
    ⟨(some 189), .fieldAddr 26 (.tmp 188) 1, (some (some 185, true))⟩,
    ⟨(some 190), .load 9 (.tmp 189), (some (some 185, true))⟩,
    ⟨(some 191), .move (.tmp 16), (some (some 185, true))⟩,
    ⟨(some 192), .binOp .neq 9 (.tmp 190) (.tmp 191) 9, (some (some 185, true))⟩,
    ⟨(some 193), .move (.tmp 192), (some (some 185, true))⟩,
    ⟨(some 194), .move (.tmp 15), (some (some 193, false))⟩,
    ⟨(some 195), .move (.tmp 23), (some (some 193, false))⟩,
    ⟨(some 196), .indexAddr 34 (.tmp 194) (.tmp 195), (some (some 193, false))⟩,
    ⟨(some 197), .fieldAddr 26 (.tmp 196) 4, (some (some 193, false))⟩,
    ⟨(some 198), .load 3 (.tmp 197), (some (some 193, false))⟩,
    ⟨(some 199), .move (.tmp 18), (some (some 193, false))⟩,
    ⟨(some 200), .binOp .neq 3 (.tmp 198) (.tmp 199) 3, (some (some 193, false))⟩,
    ⟨(some 201), .pick (.tmp 193) (.const (.bool true)) (.tmp 200), (some (some 185, true))⟩,
    ⟨(some 202), .pick (.tmp 185) (.tmp 201) (.const (.bool false)), (some (some 177, false))⟩,
    ⟨(some 203), .pick (.tmp 177) (.const (.bool true)) (.tmp 202), none⟩] [0, 15, 16, 17, 18, 19, 23, 203])
  (.cond (.tmp 203) (.seq (.reg [⟨(some 2), .assign (.const (.bool false)), none⟩] [2])
  .ret)
  .skip)))
  (.reg [⟨(some 159), .move (.tmp 23), none⟩,
    ⟨(some 160), .binOp .add 3 (.tmp 159) (.const (.int .i64 1)) 3, none⟩,
    ⟨(some 23), .assign (.tmp 160), none⟩] [0, 15, 16, 17, 18, 19, 23])))
/-- loop.example/g01062/laws.FnPostmarks: number 14, params [0] -/
def laws_FnPostmarks_c : ACode := (.seq (.reg [⟨(some 2), .assign (.const (.bool false)), none⟩] [0])
  (.seq (.seq (.reg [⟨(some 45), .move (.tmp 0), none⟩,
    ⟨(some 46), .call ⟨.value (.func 50), #[(.tmp 45)], #[63]⟩, none⟩] [0, 46])
  (.cond (.tmp 46) (.seq (.reg [⟨(some 2), .assign (.const (.bool true)), none⟩] [2])
  .ret)
  .skip))
  (.seq (.reg [⟨(some 48), .move (.tmp 0), none⟩,
    ⟨(some 49), .call ⟨.value (.func 51), #[(.tmp 48)], #[63]⟩, none⟩,
    ⟨(some 47), .move (.tmp 49), none⟩,
    ⟨(some 50), .extract (.tmp 47) 0, none⟩,
    ⟨(some 51), .extract (.tmp 47) 1, none⟩,
    ⟨(some 52), .extract (.tmp 47) 2, none⟩,
    ⟨(some 3), .assign (.tmp 50), none⟩,
    ⟨(some 4), .assign (.tmp 51), none⟩,
    ⟨(some 5), .assign (.tmp 52), none⟩] [0, 3, 4, 5])
  (.seq (.reg [⟨(some 54), .move (.tmp 3), none⟩,
    ⟨(some 55), .move (.tmp 4), none⟩,
    ⟨(some 56), .move (.tmp 5), none⟩,
    ⟨(some 57), .call ⟨.value (.func 33), #[(.tmp 54), (.tmp 55), (.tmp 56)], #[34, 3, 3]⟩, none⟩,
    ⟨(some 53), .move (.tmp 57), none⟩,
    ⟨(some 58), .extract (.tmp 53) 0, none⟩,
    ⟨(some 59), .extract (.tmp 53) 1, none⟩,
    ⟨(some 6), .assign (.tmp 58), none⟩,
    ⟨(some 7), .assign (.tmp 59), none⟩] [0, 3, 4, 5, 6, 7])
  (.seq (.seq (.reg [⟨(some 61), .move (.tmp 3), none⟩,
    ⟨(some 62), .move (.tmp 4), none⟩,
    ⟨(some 63), .move (.tmp 5), none⟩,
    ⟨(some 64), .call ⟨.value (.func 32), #[(.tmp 61), (.tmp 62), (.tmp 63)], #[34, 3, 3]⟩, none⟩,
    ⟨(some 60), .move (.tmp 64), none⟩,
    ⟨(some 65), .extract (.tmp 60) 0, none⟩,
    ⟨(some 66), .extract (.tmp 60) 1, none⟩,
    ⟨(some 8), .assign (.tmp 65), none⟩,
    ⟨(some 9), .assign (.tmp 66), none⟩] [0, 3, 6, 7, 8, 9])
  (.seq (.reg [⟨(some 67), .move (.tmp 7), none⟩,
    ⟨(some 68), .move (.tmp 9), none⟩,
    ⟨(some 69), .binOp .neq 4 (.tmp 67) (.tmp 68) 4, none⟩,
    ⟨(some 70), .move (.tmp 69), none⟩,
    ⟨(some 71), .move (.tmp 6), (some (some 70, false))⟩,
    ⟨(some 72), .move (.tmp 8), (some (some 70, false))⟩,
    ⟨(some 73), .call ⟨.value (.func 52), #[(.tmp 71), (.tmp 72)], #[34, 34]⟩, (some (some 70, false))⟩,
    ⟨(some 74), .unOp .not 4 (.tmp 73), (some (some 70, false))⟩,
    ⟨(some 75), .pick (.tmp 70) (.const (.bool true)) (.tmp 74), none⟩] [0, 3, 6, 7, 75])
  (.cond (.tmp 75) (.seq (.reg [⟨(some 2), .assign (.const (.bool false)), none⟩] [2])
  .ret)
  .skip)))
  (.seq (.seq (.reg [⟨(some 10), .assign (.const (.int .i64 0)), none⟩] [0, 3, 6, 7, 10])
  (.block 0 (.loop laws_FnPostmarks_l0)))
  (.seq (.reg [⟨(some 121), .move (.tmp 0), none⟩,
    ⟨(some 122), .call ⟨.value (.func 54), #[(.tmp 121)], #[63]⟩, none⟩,
    ⟨(some 120), .move (.tmp 122), none⟩,
    ⟨(some 123), .extract (.tmp 120) 0, none⟩,
    ⟨(some 124), .extract (.tmp 120) 1, none⟩,
    ⟨(some 15), .assign (.tmp 123), none⟩,
    ⟨(some 16), .assign (.tmp 124), none⟩] [0, 15, 16])
  (.seq (.reg [⟨(some 126), .move (.tmp 15), none⟩,
    ⟨(some 127), .move (.tmp 16), none⟩,
    ⟨(some 128), .call ⟨.value (.func 27), #[(.tmp 126), (.tmp 127)], #[34, 9]⟩, none⟩,
    ⟨(some 125), .move (.tmp 128), none⟩,
    ⟨(some 129), .extract (.tmp 125) 0, none⟩,
    ⟨(some 130), .extract (.tmp 125) 1, none⟩,
    ⟨(some 131), .extract (.tmp 125) 2, none⟩,
    ⟨(some 17), .assign (.tmp 129), none⟩,
    ⟨(some 18), .assign (.tmp 130), none⟩,
    ⟨(some 19), .assign (.tmp 131), none⟩] [0, 15, 16, 17, 18, 19])
  (.seq (.seq (.reg [⟨(some 133), .move (.tmp 15), none⟩,
    ⟨(some 134), .move (.tmp 16), none⟩,
    ⟨(some 135), .call ⟨.value (.func 26), #[(.tmp 133), (.tmp 134)], #[34, 9]⟩, none⟩,
    ⟨(some 132), .move (.tmp 135), none⟩,
    ⟨(some 136), .extract (.tmp 132) 0, none⟩,
    ⟨(some 137), .extract (.tmp 132) 1, none⟩,
    ⟨(some 138), .extract (.tmp 132) 2, none⟩,
    ⟨(some 20), .assign (.tmp 136), none⟩,
    ⟨(some 21), .assign (.tmp 137), none⟩,
    ⟨(some 22), .assign (.tmp 138), none⟩] [0, 15, 16, 17, 18, 19, 20, 21, 22])
  (.seq (.reg [⟨(some 139), .move (.tmp 17), none⟩,
    ⟨(some 140), .move (.tmp 20), none⟩,
    ⟨(some 141), .binOp .neq 3 (.tmp 139) (.tmp 140) 3, none⟩,
    ⟨(some 142), .move (.tmp 141), none⟩,
    ⟨(some 143), .move (.tmp 18), (some (some 142, false))⟩,
    ⟨(some 144), .move (.tmp 21), (some (some 142, false))⟩,
    ⟨(some 145), .binOp .neq 3 (.tmp 143) (.tmp 144) 3, (some (some 142, false))⟩,
    ⟨(some 146), .pick (.tmp 142) (.const (.bool true)) (.tmp 145), none⟩,
    ⟨(some 147), .move (.tmp 146), none⟩,
    ⟨(some 148), .move (.tmp 19), (some (some 147, false))⟩,
    ⟨(some 149), .move (.tmp 22), (some (some 147, false))⟩,
    ⟨(some 150), .binOp .neq 4 (.tmp 148) (.tmp 149) 4, (some (some 147, false))⟩,
    ⟨(some 151), .pick (.tmp 147) (.const (.bool true)) (.tmp 150), none⟩] [0, 15, 16, 17, 18, 19, 151])
  (.cond (.tmp 151) (.seq (.reg [⟨(some 2), .assign (.const (.bool false)), none⟩] [2])
  .ret)
  .skip)))
  (.seq (.seq (.reg [⟨(some 23), .assign (.const (.int .i64 0)), none⟩] [0, 15, 16, 17, 18, 19, 23])
  (.block 2 (.loop laws_FnPostmarks_l1)))
  (.seq (.reg [⟨(some 205), .move (.tmp 0), none⟩,
    ⟨(some 206), .call ⟨.value (.func 55), #[(.tmp 205)], #[63]⟩, none⟩,
    ⟨(some 204), .move (.tmp 206), none⟩,
    ⟨(some 207), .extract (.tmp 204) 0, none⟩,
    ⟨(some 208), .extract (.tmp 204) 1, none⟩,
    ⟨(some 209), .extract (.tmp 204) 2, none⟩,
    ⟨(some 24), .assign (.tmp 207), none⟩,
    ⟨(some 25), .assign (.tmp 208), none⟩,
    ⟨(some 26), .assign (.tmp 209), none⟩] [0, 24, 25, 26])
  (.seq (.reg [⟨(some 211), .move (.tmp 24), none⟩,
    ⟨(some 212), .move (.tmp 25), none⟩,
    ⟨(some 213), .move (.tmp 26), none⟩,
    ⟨(some 214), .call ⟨.value (.func 31), #[(.tmp 211), (.tmp 212), (.tmp 213)], #[34, 3, 3]⟩, none⟩,
    ⟨(some 210), .move (.tmp 214), none⟩,
    ⟨(some 215), .extract (.tmp 210) 0, none⟩,
    ⟨(some 216), .extract (.tmp 210) 1, none⟩,
    ⟨(some 27), .assign (.tmp 215), none⟩,
    ⟨(some 28), .assign (.tmp 216), none⟩] [0, 24, 25, 26, 27, 28])
  (.seq (.seq (.reg [⟨(some 218), .move (.tmp 24), none⟩,
    ⟨(some 219), .move (.tmp 25), none⟩,
    ⟨(some 220), .move (.tmp 26), none⟩,
    ⟨(some 221), .call ⟨.value (.func 30), #[(.tmp 218), (.tmp 219), (.tmp 220)], #[34, 3, 3]⟩, none⟩,
    ⟨(some 217), .move (.tmp 221), none⟩,
    ⟨(some 222), .extract (.tmp 217) 0, none⟩,
    ⟨(some 223), .extract (.tmp 217) 1, none⟩,
    ⟨(some 29), .assign (.tmp 222), none⟩,
    ⟨(some 30), .assign (.tmp 223), none⟩] [0, 24, 25, 26, 27, 28, 29, 30])
  (.seq (.reg [⟨(some 224), .move (.tmp 27), none⟩,
    ⟨(some 225), .move (.tmp 29), none⟩,
    ⟨(some 226), .binOp .neq 4 (.tmp 224) (.tmp 225) 4, none⟩,
    ⟨(some 227), .move (.tmp 226), none⟩,
    ⟨(some 228), .move (.tmp 28), (some (some 227, false))⟩,
    ⟨(some 229), .move (.tmp 30), (some (some 227, false))⟩,
    ⟨(some 230), .binOp .neq 4 (.tmp 228) (.tmp 229) 4, (some (some 227, false))⟩,
    ⟨(some 231), .pick (.tmp 227) (.const (.bool true)) (.tmp 230), none⟩] [0, 24, 25, 26, 27, 28, 231])
  (.cond (.tmp 231) (.seq (.reg [⟨(some 2), .assign (.const (.bool false)), none⟩] [2])
  .ret)
  .skip)))
  (.seq (.seq (.reg [⟨(some 233), .move (.tmp 24), none⟩,
    ⟨(some 234), .move (.tmp 26), none⟩,
    ⟨(some 235), .move (.tmp 25), none⟩,
    ⟨(some 236), .call ⟨.value (.func 31), #[(.tmp 233), (.tmp 234), (.tmp 235)], #[34, 3, 3]⟩, none⟩,
    ⟨(some 232), .move (.tmp 236), none⟩,
    ⟨(some 237), .extract (.tmp 232) 0, none⟩,
    ⟨(some 238), .extract (.tmp 232) 1, none⟩,
    ⟨(some 31), .assign (.tmp 237), none⟩,
    ⟨(some 32), .assign (.tmp 238), none⟩] [0, 25, 26, 27, 28, 31, 32])
  (.seq (.reg [⟨(some 239), .move (.tmp 31), none⟩,
    ⟨(some 240), .move (.tmp 27), none⟩,
    ⟨(some 241), .binOp .neq 4 (.tmp 239) (.tmp 240) 4, none⟩,
    ⟨(some 242), .move (.tmp 241), none⟩,
    ⟨(some 243), .move (.tmp 32), (some (some 242, false))⟩,
    ⟨(some 244), .move (.tmp 28), (some (some 242, false))⟩,
    ⟨(some 245), .binOp .neq 4 (.tmp 243) (.tmp 244) 4, (some (some 242, false))⟩,
    ⟨(some 246), .pick (.tmp 242) (.const (.bool true)) (.tmp 245), none⟩,
    ⟨(some 247), .move (.tmp 246), none⟩,
    ⟨(some 248), .move (.tmp 28), (some (some 247, false))⟩,
    ⟨(some 249), .move (.tmp 248), (some (some 247, false))⟩,
    ⟨(some 250), .move (.tmp 25), (some (some 249, true))⟩,
    ⟨(some 251), .move (.tmp 26), (some (some 249, true))⟩,
    ⟨(some 252), .binOp .eql 3 (.tmp 250) (.tmp 251) 3, (some (some 249, true))⟩,
    ⟨(some 253), .pick (.tmp 249) (.tmp 252) (.const (.bool false)), (some (some 247, false))⟩,
    ⟨(some 254), .move (.tmp 253), (some (some 247, false))⟩,
    ⟨(some 255), .move (.tmp 27), (some (some 254, true))⟩,
    ⟨(some 256), .unOp .not 4 (.tmp 255), (some (some 254, true))⟩,
    ⟨(some 257), .pick (.tmp 254) (.tmp 256) (.const (.bool false)), (some (some 247, false))⟩,
    ⟨(some 258), .pick (.tmp 247) (.const (.bool true)) (.tmp 257), none⟩] [0, 258])
  (.cond (.tmp 258) (.seq (.reg [⟨(some 2), .assign (.const (.bool false)), none⟩] [2])
  .ret)
  .skip)))
  (.seq (.reg [⟨(some 260), .move (.tmp 0), none⟩,
    ⟨(some 261), .call ⟨.value (.func 56), #[(.tmp 260)], #[63]⟩, none⟩,
    ⟨(some 259), .move (.tmp 261), none⟩,
    ⟨(some 262), .extract (.tmp 259) 0, none⟩,
    ⟨(some 263), .extract (.tmp 259) 1, none⟩,
    ⟨(some 264), .extract (.tmp 259) 2, none⟩,
    ⟨(some 33), .assign (.tmp 262), none⟩,
    ⟨(some 34), .assign (.tmp 263), none⟩,
    ⟨(some 35), .assign (.tmp 264), none⟩] [0, 33, 34, 35])
  (.seq (.reg [⟨(some 266), .move (.tmp 33), none⟩,
    ⟨(some 267), .move (.tmp 34), none⟩,
    ⟨(some 268), .move (.tmp 35), none⟩,
    ⟨(some 269), .call ⟨.value (.func 41), #[(.tmp 266), (.tmp 267), (.tmp 268)], #[34, 9, 3]⟩, none⟩,
    ⟨(some 265), .move (.tmp 269), none⟩,
    ⟨(some 270), .extract (.tmp 265) 0, none⟩,
    ⟨(some 271), .extract (.tmp 265) 1, none⟩,
    ⟨(some 36), .assign (.tmp 270), none⟩,
    ⟨(some 37), .assign (.tmp 271), none⟩] [0, 33, 34, 35, 36, 37])
  (.seq (.reg [⟨(some 273), .move (.tmp 33), none⟩,
    ⟨(some 274), .move (.tmp 34), none⟩,
    ⟨(some 275), .move (.tmp 35), none⟩,
    ⟨(some 276), .call ⟨.value (.func 40), #[(.tmp 273), (.tmp 274), (.tmp 275)], #[34, 9, 3]⟩, none⟩,
    ⟨(some 272), .move (.tmp 276), none⟩,
    ⟨(some 277), .extract (.tmp 272) 0, none⟩,
    ⟨(some 278), .extract (.tmp 272) 1, none⟩,
    ⟨(some 38), .assign (.tmp 277), none⟩,
    ⟨(some 39), .assign (.tmp 278), none⟩] [0, 33, 36, 37, 38, 39])
  (.seq (.reg [⟨(some 279), .move (.tmp 0), none⟩,
    ⟨(some 280), .call ⟨.value (.func 57), #[(.tmp 279)], #[63]⟩, none⟩,
    ⟨(some 40), .alloc 26, none⟩,
    ⟨none, .store 26 (.tmp 40) (.tmp 280), none⟩] [33, 36, 37, 38, 39, 40])
  (.seq (.reg [⟨(some 282), .load 26 (.tmp 40), none⟩,
    ⟨(some 283), .call ⟨.value (.func 20), #[(.tmp 282)], #[26]⟩, none⟩,
    ⟨(some 281), .move (.tmp 283), none⟩,
    ⟨(some 284), .extract (.tmp 281) 0, none⟩,
    ⟨(some 285), .extract (.tmp 281) 1, none⟩,
    ⟨(some 41), .assign (.tmp 284), none⟩,
    ⟨(some 42), .assign (.tmp 285), none⟩] [33, 36, 37, 38, 39, 40, 41, 42])
  (.seq (.reg [⟨(some 287), .load 26 (.tmp 40), none⟩,
    ⟨(some 288), .call ⟨.value (.func 19), #[(.tmp 287)], #[26]⟩, none⟩,
    ⟨(some 286), .move (.tmp 288), none⟩,
    ⟨(some 289), .extract (.tmp 286) 0, none⟩,
    ⟨(some 290), .extract (.tmp 286) 1, none⟩,
    ⟨(some 43), .assign (.tmp 289), none⟩,
    ⟨(some 44), .assign (.tmp 290), none⟩] [33, 36, 37, 38, 39, 40, 41, 42, 43, 44])
  (.seq (.regQ [⟨(some 291), .move (.tmp 37), none⟩,
    ⟨(some 292), .move (.tmp 39), none⟩,
    ⟨(some 293), .binOp .eql 4 (.tmp 291) (.tmp 292) 4, none⟩,
    ⟨(some 294), .move (.tmp 293), none⟩,
    ⟨(some 295), .move (.tmp 36), (some (some 294, true))⟩,
    ⟨(some 296), .move (.tmp 38), (some (some 294, true))⟩,
    ⟨(some 297), .call ⟨.value (.func 58), #[(.tmp 295), (.tmp 296)], #[51, 51]⟩, (some (some 294, true))⟩,
    ⟨(some 298), .pick (.tmp 294) (.tmp 297) (.const (.bool false)), none⟩,
    ⟨(some 299), .move (.tmp 298), none⟩,
    ⟨(some 300), .move (.tmp 41), (some (some 299, true))⟩,
    ⟨(some 301), .move (.tmp 43), (some (some 299, true))⟩,
    ⟨(some 302), .binOp .eql 9 (.tmp 300) (.tmp 301) 9, (some (some 299, true))⟩,
    ⟨(some 303), .pick (.tmp 299) (.tmp 302) (.const (.bool false)), none⟩,
    ⟨(some 304), .move (.tmp 303), none⟩,
    ⟨(some 305), .move (.tmp 42), (some (some 304, true))⟩,
    ⟨(some 306), .move (.tmp 44), (some (some 304, true))⟩,
    ⟨(some 307), .binOp .eql 4 (.tmp 305) (.tmp 306) 4, (some (some 304, true))⟩,
    ⟨(some 308), .pick (.tmp 304) (.tmp 307) (.const (.bool false)), none⟩,
    ⟨(some 309), .move (.tmp 308), none⟩,
    ⟨(some 310), .load 26 (.tmp 40), (some (some 309, true))⟩,
    ⟨(some 311), .call ⟨.value (.func 18), #[(.tmp 310)], #[26]⟩, (some (some 309, true))⟩,
    ⟨(some 312), .load 26 (.tmp 40), (some (some 309, true))⟩,
    ⟨(some 313), .call ⟨.value (.func 16), #[(.tmp 312)], #[26]⟩, (some (some 309, true))⟩,
    ⟨(some 314), .binOp .eql 4 (.tmp 311) (.tmp 313) 4, (some (some 309, true))⟩,
    ⟨(some 315), .pick (.tmp 309) (.tmp 314) (.const (.bool false)), none⟩,
    ⟨(some 316), .move (.tmp 315), none⟩,
    ⟨(some 317), .move (.tmp 33), (some (some 316, true))⟩,
    ⟨(some 318), .call ⟨.value (.func 24), #[(.tmp 317)], #[34]⟩, (some (some 316, true))⟩,
    ⟨(some 319), .move (.tmp 33), (some (some 316, true))⟩,
    ⟨(some 320), .call ⟨.value (.func 22), #[(.tmp 319)], #[34]⟩, (some (some 316, true))⟩,
    ⟨(some 321), .binOp .eql 4 (.tmp 318) (.tmp 320) 4, (some (some 316, true))⟩,
    ⟨(some 322), .pick (.tmp 316) (.tmp 321) (.const (.bool false)), none⟩,
    ⟨(some 2), .assign (.tmp 322), none⟩] [2])
  .ret)))))))))))))))))))))
theorem laws_FnPostmarks_k : fnOk Tryd.prog (fun _ => false) 14 = some (laws_FnPostmarks_c.strip, 323, [.tmp 2]) := by kernel_rfl
/-- loop.example/g01062/laws.szPostmark: number 15, params [0, 1] -/
def laws_szPostmark_c : ACode := (.seq (.reg [⟨(some 2), .box 23 (.tmp 0), none⟩,
    ⟨(some 4), .assign (.const (.int .i64 0)), none⟩] [1, 2])
  (.seq (.reg [⟨(some 5), .move (.tmp 1), none⟩,
    ⟨(some 6), .fieldAddr 23 (.tmp 2) 1, none⟩,
    ⟨(some 7), .load 9 (.tmp 6), none⟩,
    ⟨(some 8), .call ⟨.builtin .len, #[(.tmp 7)], #[9]⟩, none⟩,
    ⟨(some 9), .binOp .sub 3 (.tmp 5) (.tmp 8) 3, none⟩,
    ⟨(some 1), .assign (.tmp 9), none⟩] [1, 2])
  (.seq (.seq (.reg [⟨(some 10), .move (.tmp 1), none⟩,
    ⟨(some 11), .binOp .lss 3 (.tmp 10) (.const (.int .i64 0)) 3, none⟩] [1, 2, 11])
  (.cond (.tmp 11) (.seq (.reg [⟨(some 4), .assign (.const (.int .i64 (-1))), none⟩] [4])
  .ret)
  .skip))
  (.seq (.reg [⟨(some 12), .move (.tmp 1), none⟩,
    ⟨(some 13), .fieldAddr 23 (.tmp 2) 5, none⟩,
    ⟨(some 14), .load 9 (.tmp 13), none⟩,
    ⟨(some 15), .call ⟨.builtin .len, #[(.tmp 14)], #[9]⟩, none⟩,
    ⟨(some 16), .binOp .sub 3 (.tmp 12) (.tmp 15) 3, none⟩,
    ⟨(some 1), .assign (.tmp 16), none⟩] [1])
  (.seq (.seq (.reg [⟨(some 17), .move (.tmp 1), none⟩,
    ⟨(some 18), .binOp .lss 3 (.tmp 17) (.const (.int .i64 0)) 3, none⟩] [1, 18])
  (.cond (.tmp 18) (.seq (.reg [⟨(some 4), .assign (.const (.int .i64 (-1))), none⟩] [4])
  .ret)
  .skip))
  (.seq (.reg [⟨(some 19), .move (.tmp 1), none⟩,
    ⟨(some 4), .assign (.tmp 19), none⟩] [4])
  .ret))))))
theorem laws_szPostmark_k : fnOk Tryd.prog (fun _ => false) 15 = some (laws_szPostmark_c.strip, 20, [.tmp 4]) := by kernel_rfl
/-- loop.example/g01062/spec.IsPostmark: number 16, params [0] -/
def spec_IsPostmark_c : ACode := (.seq (.reg [⟨(some 1), .box 26 (.tmp 0), none⟩,
    ⟨(some 2), .assign (.const (.bool false)), none⟩] [1])
  (.seq (.reg [⟨(some 3), .load 26 (.tmp 1), none⟩,
    ⟨(some 4), .call ⟨.value (.func 59), #[(.tmp 3)], #[26]⟩, none⟩,
    ⟨(some 2), .assign (.tmp 4), none⟩] [2])
  .ret))
theorem spec_IsPostmark_k : fnOk Tryd.prog (fun _ => false) 16 = some (spec_IsPostmark_c.strip, 5, [.tmp 2]) := by kernel_rfl
/-- loop.example/g01062/laws.toPostmark: number 17, params [0] -/
def laws_toPostmark_c : ACode := (.seq (.reg [⟨(some 1), .box 23 (.tmp 0), none⟩,
    ⟨(some 2), .alloc 26, none⟩] [1, 2])
  (.seq (.reg [⟨(some 3), .alloc 26, none⟩] [1, 2, 3])
  (.seq (.reg [⟨(some 4), .fieldAddr 23 (.tmp 1) 0, none⟩,
    ⟨(some 5), .load 3 (.tmp 4), none⟩,
    ⟨(some 6), .fieldAddr 26 (.tmp 3) 0, none⟩,
    ⟨none, .store 3 (.tmp 6) (.tmp 5), none⟩] [1, 2, 3])
  (.seq (.reg [⟨(some 7), .fieldAddr 23 (.tmp 1) 1, none⟩,
    ⟨(some 8), .load 9 (.tmp 7), none⟩,
    ⟨(some 9), .fieldAddr 26 (.tmp 3) 1, none⟩,
    ⟨none, .store 9 (.tmp 9) (.tmp 8), none⟩] [1, 2, 3])
  (.seq (.reg [⟨(some 10), .fieldAddr 23 (.tmp 1) 2, none⟩,
    ⟨(some 11), .load 3 (.tmp 10), none⟩,
    ⟨(some 12), .fieldAddr 26 (.tmp 3) 2, none⟩,
    ⟨none, .store 3 (.tmp 12) (.tmp 11), none⟩] [1, 2, 3])
  (.seq (.reg [⟨(some 13), .fieldAddr 23 (.tmp 1) 3, none⟩,
    ⟨(some 14), .load 3 (.tmp 13), none⟩,
    ⟨(some 15), .fieldAddr 26 (.tmp 3) 3, none⟩,
    ⟨none, .store 3 (.tmp 15) (.tmp 14), none⟩] [1, 2, 3])
  (.seq (.reg [⟨(some 16), .fieldAddr 23 (.tmp 1) 4, none⟩,
    ⟨(some 17), .load 3 (.tmp 16), none⟩,
    ⟨(some 18), .fieldAddr 26 (.tmp 3) 4, none⟩,
    ⟨none, .store 3 (.tmp 18) (.tmp 17), none⟩] [1, 2, 3])
  (.seq (.reg [⟨(some 19), .fieldAddr 23 (.tmp 1) 5, none⟩,
    ⟨(some 20), .load 9 (.tmp 19), none⟩,
    ⟨(some 21), .fieldAddr 26 (.tmp 3) 5, none⟩,
    ⟨none, .store 9 (.tmp 21) (.tmp 20), none⟩] [2, 3])
  (.seq (.reg [⟨(some 22), .load 26 (.tmp 3), none⟩,
    ⟨none, .store 26 (.tmp 2) (.tmp 22), none⟩] [2])
  .ret)))))))))
theorem laws_toPostmark_k : fnOk Tryd.prog (fun _ => false) 17 = some (laws_toPostmark_c.strip, 23, [.cell 2 26]) := by kernel_rfl
/-- loop.example/g01062/impl.IsPostmark: number 18, params [0] -/
def impl_IsPostmark_c : ACode := (.seq (.reg [⟨(some 1), .box 26 (.tmp 0), none⟩,
    ⟨(some 2), .assign (.const (.bool false)), none⟩] [1])
  (.seq (.reg [⟨(some 3), .load 26 (.tmp 1), none⟩,
    ⟨(some 4), .call ⟨.value (.func 60), #[(.tmp 3)], #[26]⟩, none⟩,
    ⟨(some 2), .assign (.tmp 4), none⟩] [2])
  .ret))
theorem impl_IsPostmark_k : fnOk Tryd.prog (fun _ => false) 18 = some (impl_IsPostmark_c.strip, 5, [.tmp 2]) := by kernel_rfl
/-- loop.example/g01062/spec.ShownBy: number 19, params [0] -/
def spec_ShownBy_c : ACode := (.seq (.reg [⟨(some 1), .box 26 (.tmp 0), none⟩,
    ⟨(some 2), .assign (.const (.string ⟨#[]⟩)), none⟩,
    ⟨(some 3), .assign (.const (.bool false)), none⟩] [1])
  (.seq (.seq (.reg [⟨(some 4), .load 26 (.tmp 1), none⟩,
    ⟨(some 5), .call ⟨.value (.func 59), #[(.tmp 4)], #[26]⟩, none⟩,
    ⟨(some 6), .unOp .not 4 (.tmp 5), none⟩] [1, 6])
  (.cond (.tmp 6) (.seq (.reg [⟨(some 2), .assign (.const (.string ⟨#[]⟩)), none⟩,
    ⟨(some 3), .assign (.const (.bool false)), none⟩] [2, 3])
  .ret)
  .skip))
  (.seq (.reg [⟨(some 7), .load 26 (.tmp 1), none⟩,
    ⟨(some 8), .call ⟨.value (.func 61), #[(.tmp 7)], #[26]⟩, none⟩,
    ⟨(some 2), .assign (.tmp 8), none⟩,
    ⟨(some 3), .assign (.const (.bool true)), none⟩] [2, 3])
  .ret)))
theorem spec_ShownBy_k : fnOk Tryd.prog (fun _ => false) 19 = some (spec_ShownBy_c.strip, 9, [.tmp 2, .tmp 3]) := by kernel_rfl
/-- loop.example/g01062/impl.ShownBy: number 20, params [0] -/
def impl_ShownBy_c : ACode := (.seq (.reg [⟨(some 1), .box 26 (.tmp 0), none⟩,
    ⟨(some 2), .assign (.const (.string ⟨#[]⟩)), none⟩,
    ⟨(some 3), .assign (.const (.bool false)), none⟩] [1])
  (.seq (.seq (.reg [⟨(some 4), .load 26 (.tmp 1), none⟩,
    ⟨(some 5), .call ⟨.value (.func 60), #[(.tmp 4)], #[26]⟩, none⟩,
    ⟨(some 6), .unOp .not 4 (.tmp 5), none⟩] [1, 6])
  (.cond (.tmp 6) (.seq (.reg [⟨(some 2), .assign (.const (.string ⟨#[]⟩)), none⟩,
    ⟨(some 3), .assign (.const (.bool false)), none⟩] [2, 3])
  .ret)
  .skip))
  (.seq (.reg [⟨(some 7), .load 26 (.tmp 1), none⟩,
    ⟨(some 8), .call ⟨.value (.func 62), #[(.tmp 7)], #[26]⟩, none⟩,
    ⟨(some 2), .assign (.tmp 8), none⟩,
    ⟨(some 3), .assign (.const (.bool true)), none⟩] [2, 3])
  .ret)))
theorem impl_ShownBy_k : fnOk Tryd.prog (fun _ => false) 20 = some (impl_ShownBy_c.strip, 9, [.tmp 2, .tmp 3]) := by kernel_rfl
/-- head: [0, 1, 5] -/
def laws_szPostmarkS_l0 : ACode := (.seq (.seq (.reg [⟨(some 12), .move (.tmp 5), none⟩,
    ⟨(some 13), .move (.tmp 0), none⟩,
    ⟨(some 14), .call ⟨.builtin .len, #[(.tmp 13)], #[31]⟩, none⟩,
    ⟨(some 15), .binOp .lss 3 (.tmp 12) (.tmp 14) 3, none⟩] [0, 1, 5, 15])
  (.cond (.tmp 15) .skip
  (.exit 0)))
  (.seq (.block 1 (.seq (.reg [⟨(some 18), .move (.tmp 0), none⟩,
    ⟨(some 19), .move (.tmp 5), none⟩,
    ⟨(some 20), .indexAddr 31 (.tmp 18) (.tmp 19), none⟩,
    ⟨(some 21), .load 23 (.tmp 20), none⟩,
    ⟨(some 22), .move (.tmp 1), none⟩,
    ⟨(some 23), .call ⟨.value (.func 15), #[(.tmp 21), (.tmp 22)], #[23, 3]⟩, none⟩,
    ⟨(some 1), .assign (.tmp 23), none⟩] [0, 1, 5])
  (.seq (.reg [⟨(some 24), .move (.tmp 1), none⟩,
    ⟨(some 25), .binOp .lss 3 (.tmp 24) (.const (.int .i64 0)) 3, none⟩] [0, 1, 5, 25])
  (.cond (.tmp 25) (.seq (.reg [⟨(some 4), .assign (.const (.int .i64 (-1))), none⟩] [4])
  .ret)
  .skip))))
  (.reg [⟨(some 16), .move (.tmp 5), none⟩,
    ⟨(some 17), .binOp .add 3 (.tmp 16) (.const (.int .i64 1)) 3, none⟩,
    ⟨(some 5), .assign (.tmp 17), none⟩] [0, 1, 5])))
/-- loop.example/g01062/laws.szPostmarkS: number 21, params [0, 1] -/
def laws_szPostmarkS_c : ACode := (.seq (.reg [⟨(some 4), .assign (.const (.int .i64 0)), none⟩] [0, 1])
  (.seq (.reg [⟨(some 6), .move (.tmp 1), none⟩,
    ⟨(some 7), .move (.tmp 0), none⟩,
    ⟨(some 8), .call ⟨.builtin .len, #[(.tmp 7)], #[31]⟩, none⟩,
    ⟨(some 9), .binOp .sub 3 (.tmp 6) (.tmp 8) 3, none⟩,
    ⟨(some 1), .assign (.tmp 9), none⟩] [0, 1])
  (.seq (.seq (.reg [⟨(some 10), .move (.tmp 1), none⟩,
    ⟨(some 11), .binOp .lss 3 (.tmp 10) (.const (.int .i64 0)) 3, none⟩] [0, 1, 11])
  (.cond (.tmp 11) (.seq (.reg [⟨(some 4), .assign (.const (.int .i64 (-1))), none⟩] [4])
  .ret)
  .skip))
  (.seq (.seq (.reg [⟨(some 5), .assign (.const (.int .i64 0)), none⟩] [0, 1, 5])
  (.block 0 (.loop laws_szPostmarkS_l0)))
  (.seq (.reg [⟨(some 26), .move (.tmp 1), none⟩,
    ⟨(some 4), .assign (.tmp 26), none⟩] [4])
  .ret)))))
theorem laws_szPostmarkS_k : fnOk Tryd.prog (fun _ => false) 21 = some (laws_szPostmarkS_c.strip, 27, [.tmp 4]) := by kernel_rfl
/-- loop.example/g01062/spec.ArePostmarks: number 22, params [0] -/
def spec_ArePostmarks_c : ACode := (.seq (.reg [⟨(some 2), .assign (.const (.bool false)), none⟩] [0])
  (.seq (.reg [⟨(some 3), .move (.tmp 0), none⟩,
    ⟨(some 4), .call ⟨.value (.func 63), #[(.tmp 3)], #[34]⟩, none⟩,
    ⟨(some 2), .assign (.tmp 4), none⟩] [2])
  .ret))
theorem spec_ArePostmarks_k : fnOk Tryd.prog (fun _ => false) 22 = some (spec_ArePostmarks_c.strip, 5, [.tmp 2]) := by kernel_rfl
/-- head: [0, 3, 4] -/
def laws_toPostmarkS_l0 : ACode := (.seq (.seq (.reg [⟨(some 8), .move (.tmp 4), none⟩,
    ⟨(some 9), .move (.tmp 0), none⟩,
    ⟨(some 10), .call ⟨.builtin .len, #[(.tmp 9)], #[31]⟩, none⟩,
    ⟨(some 11), .binOp .lss 3 (.tmp 8) (.tmp 10) 3, none⟩] [0, 3, 4, 11])
  (.cond (.tmp 11) .skip
  (.exit 0)))
  (.seq (.block 1 (.reg [⟨(some 14), .move (.tmp 3), none⟩,
    ⟨(some 15), .move (.tmp 4), none⟩,
    ⟨(some 16), .move (.tmp 0), none⟩,
    ⟨(some 17), .move (.tmp 4), none⟩,
    ⟨(some 18), .indexAddr 31 (.tmp 16) (.tmp 17), none⟩,
    ⟨(some 19), .load 23 (.tmp 18), none⟩,
    ⟨(some 20), .call ⟨.value (.func 17), #[(.tmp 19)], #[23]⟩, none⟩,
    ⟨(some 21), .indexAddr 34 (.tmp 14) (.tmp 15), none⟩,
    ⟨none, .store 26 (.tmp 21) (.tmp 20), none⟩] [0, 3, 4]))
  (.reg [⟨(some 12), .move (.tmp 4), none⟩,
    ⟨(some 13), .binOp .add 3 (.tmp 12) (.const (.int .i64 1)) 3, none⟩,
    ⟨(some 4), .assign (.tmp 13), none⟩] [0, 3, 4])))
/-- loop.example/g01062/laws.toPostmarkS: number 23, params [0] -/
def laws_toPostmarkS_c : ACode := (.seq (.reg [⟨(some 2), .assign (.const (.slice none 0 0)), none⟩] [0])
  (.seq (.reg [⟨(some 5), .move (.tmp 0), none⟩,
    ⟨(some 6), .call ⟨.builtin .len, #[(.tmp 5)], #[31]⟩, none⟩,
    ⟨(some 7), .makeSlice 34 (.tmp 6) (.tmp 6), none⟩,
    ⟨(some 3), .assign (.tmp 7), none⟩] [0, 3])
  (.seq (.seq (.reg [⟨(some 4), .assign (.const (.int .i64 0)), none⟩] [0, 3, 4])
  (.block 0 (.loop laws_toPostmarkS_l0)))
  (.seq (.reg [⟨(some 22), .move (.tmp 3), none⟩,
    ⟨(some 2), .assign (.tmp 22), none⟩] [2])
  .ret))))
theorem laws_toPostmarkS_k : fnOk Tryd.prog (fun _ => false) 23 = some (laws_toPostmarkS_c.strip, 23, [.tmp 2]) := by kernel_rfl
/-- loop.example/g01062/impl.ArePostmarks: number 24, params [0] -/
def impl_ArePostmarks_c : ACode := (.seq (.reg [⟨(some 2), .assign (.const (.bool false)), none⟩] [0])
  (.seq (.reg [⟨(some 3), .move (.tmp 0), none⟩,
    ⟨(some 4), .call ⟨.value (.func 64), #[(.tmp 3)], #[34]⟩, none⟩,
    ⟨(some 2), .assign (.tmp 4), none⟩] [2])
  .ret))
theorem impl_ArePostmarks_k : fnOk Tryd.prog (fun _ => false) 24 = some (impl_ArePostmarks_c.strip, 5, [.tmp 2]) := by kernel_rfl
/-- head: [0, 1, 5] -/
def laws_eqPostmarkS_l0 : ACode := (.seq (.seq (.reg [⟨(some 11), .move (.tmp 5), none⟩,
    ⟨(some 12), .move (.tmp 0), none⟩,
    ⟨(some 13), .call ⟨.builtin .len, #[(.tmp 12)], #[34]⟩, none⟩,
    ⟨(some 14), .binOp .lss 3 (.tmp 11) (.tmp 13) 3, none⟩] [0, 1, 5, 14])
  (.cond (.tmp 14) .skip
  (.exit 0)))
  (.seq (.block 1 (.seq (.regQ [⟨(some 17), .move (.tmp 0), none⟩,
    ⟨(some 18), .move (.tmp 5), none⟩,
    ⟨(some 19), .indexAddr 34 (.tmp 17) (.tmp 18), none⟩,
    ⟨(some 20), .load 26 (.tmp 19), none⟩,
    ⟨(some 21), .move (.tmp 1), none⟩,
    ⟨(some 22), .move (.tmp 5), none⟩,
    ⟨(some 23), .indexAddr 34 (.tmp 21) (.tmp 22), none⟩,
    ⟨(some 24), .load 26 (.tmp 23), none⟩,
    ⟨(some 25), .call ⟨.value (.func 65), #[(.tmp 20), (.tmp 24)], #[26, 26]⟩, none⟩,
    ⟨(some 26), .unOp .not 4 (.tmp 25), none⟩] [0, 1, 5, 26])
  (.cond (.tmp 26) (.seq (.reg [⟨(some 4), .assign (.const (.bool false)), none⟩] [4])
  .ret)
  .skip)))
  (.reg [⟨(some 15), .move (.tmp 5), none⟩,
    ⟨(some 16), .binOp .add 3 (.tmp 15) (.const (.int .i64 1)) 3, none⟩,
    ⟨(some 5), .assign (.tmp 16), none⟩] [0, 1, 5])))
/-- loop.example/g01062/laws.eqPostmarkS: number 25, params [0, 1] -/
def laws_eqPostmarkS_c : ACode := (.seq (.reg [⟨(some 4), .assign (.const (.bool false)), none⟩] [0, 1])
  (.seq (.seq (.reg [⟨(some 6), .move (.tmp 0), none⟩,
    ⟨(some 7), .call ⟨.builtin .len, #[(.tmp 6)], #[34]⟩, none⟩,
    ⟨(some 8), .move (.tmp 1), none⟩,
    ⟨(some 9), .call ⟨.builtin .len, #[(.tmp 8)], #[34]⟩, none⟩,
    ⟨(some 10), .binOp .neq 3 (.tmp 7) (.tmp 9) 3, none⟩] [0, 1, 10])
  (.cond (.tmp 10) (.seq (.reg [⟨(some 4), .assign (.const (.bool false)), none⟩] [4])
  .ret)
  .skip))
  (.seq (.seq (.reg [⟨(some 5), .assign (.const (.int .i64 0)), none⟩] [0, 1, 5])
  (.block 0 (.loop laws_eqPostmarkS_l0)))
  (.seq (.reg [⟨(some 4), .assign (.const (.bool true)), none⟩] [4])
  .ret))))
theorem laws_eqPostmarkS_k : fnOk Tryd.prog (fun _ => false) 25 = some (laws_eqPostmarkS_c.strip, 27, [.tmp 4]) := by kernel_rfl
/-- head: [0, 1, 7, 8, 9] -/
def spec_LatestUse_l0 : ACode := (.seq (.seq (.reg [⟨(some 18), .move (.tmp 9), none⟩,
    ⟨(some 19), .move (.tmp 0), none⟩,
    ⟨(some 20), .call ⟨.builtin .len, #[(.tmp 19)], #[34]⟩, none⟩,
    ⟨(some 21), .binOp .lss 3 (.tmp 18) (.tmp 20) 3, none⟩] [0, 1, 7, 8, 9, 21])
  (.cond (.tmp 21) .skip
  (.exit 0)))
  (.seq (.block 1 (.seq (.reg [⟨(some 24), .move (.tmp 0), none⟩,
    ⟨(some 25), .move (.tmp 9), none⟩,
    ⟨(some 26), .indexAddr 34 (.tmp 24) (.tmp 25), none⟩,
    ⟨(some 27), .fieldAddr 26 (.tmp 26) 1, none⟩,
    ⟨(some 28), .load 9 (.tmp 27), none⟩,
    ⟨(some 29), .move (.tmp 1), none⟩,
    ⟨(some 30), .binOp .eql 9 (.tmp 28) (.tmp 29) 9, none⟩,
    ⟨(some 31), .move (.tmp 30), none⟩,
    ⟨(some 32), .move (.tmp 0), (some (some 31, true))⟩,
    ⟨(some 33), .move (.tmp 9), (some (some 31, true))⟩,
    ⟨(some 34), .indexAddr 34 (.tmp 32) (.tmp 33), (some (some 31, true))⟩,
    ⟨(some 35), .fieldAddr 26 (.tmp 34) 4, (some (some 31, true))⟩,
    ⟨(some 36), .load 3 (.tmp 35), (some (some 31, true))⟩,
    ⟨(some 37), .move (.tmp 8), (some (some 31, true))⟩,
    ⟨(some 38), .binOp .gtr 3 (.tmp 36) (.tmp 37) 3, (some (some 31, true))⟩,
    ⟨(some 39), .pick (.tmp 31) (.tmp 38) (.const (.bool false)), none⟩] [0, 1, 7, 8, 9, 39])
  (.cond (.tmp 39) (.seq (.reg [⟨(some 40), .move (.tmp 0), none⟩,
    ⟨(some 41), .move (.tmp 9), none⟩,
    ⟨(some 42), .indexAddr 34 (.tmp 40) (.tmp 41), none⟩,
    ⟨(some 43), .fieldAddr 26 (.tmp 42) 0, none⟩,
    ⟨(some 44), .load 3 (.tmp 43), none⟩,
    ⟨(some 7), .assign (.tmp 44), none⟩] [0, 1, 7, 9])
  (.reg [⟨(some 45), .move (.tmp 0), none⟩,
    ⟨(some 46), .move (.tmp 9), none⟩,
    ⟨(some 47), .indexAddr 34 (.tmp 45) (.tmp 46), none⟩,
    ⟨(some 48), .fieldAddr 26 (.tmp 47) 4, none⟩,
    ⟨(some 49), .load 3 (.tmp 48), none⟩,
    ⟨(some 8), .assign (.tmp 49), none⟩] [0, 1, 7, 8, 9]))
  .skip)))
  (.reg [⟨(some 22), .move (.tmp 9), none⟩,
    ⟨(some 23), .binOp .add 3 (.tmp 22) (.const (.int .i64 1)) 3, none⟩,
    ⟨(some 9), .assign (.tmp 23), none⟩] [0, 1, 7, 8, 9])))
/-- loop.example/g01062/spec.LatestUse: number 26, params [0, 1] -/
def spec_LatestUse_c : ACode := (.seq (.reg [⟨(some 4), .assign (.const (.int .i64 0)), none⟩,
    ⟨(some 5), .assign (.const (.int .i64 0)), none⟩,
    ⟨(some 6), .assign (.const (.bool false)), none⟩] [0, 1])
  (.seq (.seq (.reg [⟨(some 10), .move (.tmp 0), none⟩,
    ⟨(some 11), .call ⟨.value (.func 63), #[(.tmp 10)], #[34]⟩, none⟩,
    ⟨(some 12), .unOp .not 4 (.tmp 11), none⟩,
    ⟨(some 13), .move (.tmp 12), none⟩,
    ⟨(some 14), .move (.tmp 1), (some (some 13, false))⟩,
    ⟨(some 15), .call ⟨.value (.func 66), #[(.tmp 14)], #[9]⟩, (some (some 13, false))⟩,
    ⟨(some 16), .unOp .not 4 (.tmp 15), (some (some 13, false))⟩,
    ⟨(some 17), .pick (.tmp 13) (.const (.bool true)) (.tmp 16), none⟩] [0, 1, 17])
  (.cond (.tmp 17) (.seq (.reg [⟨(some 4), .assign (.const (.int .i64 0)), none⟩,
    ⟨(some 5), .assign (.const (.int .i64 0)), none⟩,
    ⟨(some 6), .assign (.const (.bool false)), none⟩] [4, 5, 6])
  .ret)
  .skip))
  (.seq (.reg [⟨(some 7), .assign (.const (.int .i64 0)), none⟩,
    ⟨(some 8), .assign (.const (.int .i64 (-1))), none⟩] [0, 1, 7, 8])
  (.seq (.seq (.reg [⟨(some 9), .assign (.const (.int .i64 0)), none⟩] [0, 1, 7, 8, 9])
  (.block 0 (.loop spec_LatestUse_l0)))
  (.seq (.seq (.reg [⟨(some 50), .move (.tmp 7), none⟩,
    ⟨(some 51), .binOp .eql 3 (.tmp 50) (.const (.int .i64 0)) 3, none⟩] [7, 8, 51])
  (.cond (.tmp 51) (.seq (.reg [⟨(some 4), .assign (.const (.int .i64 0)), none⟩,
    ⟨(some 5), .assign (.const (.int .i64 0)), none⟩,
    ⟨(some 6), .assign (.const (.bool false)), none⟩] [4, 5, 6])
  .ret)
  .skip))
  (.seq (.reg [⟨(some 52), .move (.tmp 7), none⟩,
    ⟨(some 53), .move (.tmp 8), none⟩,
    ⟨(some 4), .assign (.tmp 52), none⟩,
    ⟨(some 5), .assign (.tmp 53), none⟩,
    ⟨(some 6), .assign (.const (.bool true)), none⟩] [4, 5, 6])
  .ret))))))
theorem spec_LatestUse_k : fnOk Tryd.prog (fun _ => false) 26 = some (spec_LatestUse_c.strip, 54, [.tmp 4, .tmp 5, .tmp 6]) := by kernel_rfl
/-- head: [1, 7, 8, 19, 20, 21] -/
def impl_LatestUse_l0 : ACode := (.seq (.reg [⟨(some 22), .binOp .lss 3 (.tmp 21) (.tmp 20) 3, none⟩] [1, 7, 8, 19, 20, 21, 22])
  (.seq (.cond (.tmp 22) .skip
  (.exit 0))
  (.seq (.block 1 (.seq (.reg [⟨(some 23), .indexAddr 34 (.tmp 19) (.tmp 21), none⟩,
    ⟨(some 24), .load 26 (.tmp 23), none⟩,
    ⟨(some 10), .alloc 26, none⟩,
    ⟨none, .store 26 (.tmp 10) (.tmp 24), none⟩] [1, 7, 8, 10, 19, 20, 21])
  (.seq (.reg [⟨(some 25), .fieldAddr 26 (.tmp 10) 1, none⟩,
    ⟨(some 26), .load 9 (.tmp 25), none⟩,
    ⟨(some 27), .move (.tmp 1), none⟩,
    ⟨(some 28), .binOp .eql 9 (.tmp 26) (.tmp 27) 9, none⟩,
    ⟨(some 29), .move (.tmp 28), none⟩,
    ⟨(some 30), .fieldAddr 26 (.tmp 10) 4, (some (some 29, true))⟩,
    ⟨(some 31), .load 3 (.tmp 30), (some (some 29, true))⟩,
    ⟨(some 32), .move (.tmp 8), (some (some 29, true))⟩,
    ⟨(some 33), .binOp .gtr 3 (.tmp 31) (.tmp 32) 3, (some (some 29, true))⟩,
    ⟨(some 34), .pick (.tmp 29) (.tmp 33) (.const (.bool false)), none⟩] [1, 7, 8, 10, 19, 20, 21, 34])
  (.cond (.tmp 34) (.regQ [⟨(some 35), .fieldAddr 26 (.tmp 10) 0, none⟩,
    ⟨(some 36), .load 3 (.tmp 35), none⟩,
    ⟨(some 37), .fieldAddr 26 (.tmp 10) 4, none⟩,
    ⟨(some 38), .load 3 (.tmp 37), none⟩,
    ⟨(some 7), .assign (.tmp 36), none⟩,
    ⟨(some 8), .assign (.tmp 38), none⟩] [1, 7, 8, 19, 20, 21])
  .skip))))
  (.reg [⟨(some 39), .binOp .add 3 (.tmp 21) (.const (.int .i64 1)) 3, none⟩,
    ⟨(some 21), .move (.tmp 39), none⟩] [1, 7, 8, 19, 20, 21]))))
/-- loop.example/g01062/impl.LatestUse: number 27, params [0, 1] -/
def impl_LatestUse_c : ACode := (.seq (.reg [⟨(some 4), .assign (.const (.int .i64 0)), none⟩,
    ⟨(some 5), .assign (.const (.int .i64 0)), none⟩,
    ⟨(some 6), .assign (.const (.bool false)), none⟩] [0, 1])
  (.seq (.seq (.reg [⟨(some 11), .move (.tmp 0), none⟩,
    ⟨(some 12), .call ⟨.value (.func 64), #[(.tmp 11)], #[34]⟩, none⟩,
    ⟨(some 13), .unOp .not 4 (.tmp 12), none⟩,
    ⟨(some 14), .move (.tmp 13), none⟩,
    ⟨(some 15), .move (.tmp 1), (some (some 14, false))⟩,
    ⟨(some 16), .call ⟨.value (.func 67), #[(.tmp 15)], #[9]⟩, (some (some 14, false))⟩,
    ⟨(some 17), .unOp .not 4 (.tmp 16), (some (some 14, false))⟩,
    ⟨(some 18), .pick (.tmp 14) (.const (.bool true)) (.tmp 17), none⟩] [0, 1, 18])
  (.cond (.tmp 18) (.seq (.reg [⟨(some 4), .assign (.const (.int .i64 0)), none⟩,
    ⟨(some 5), .assign (.const (.int .i64 0)), none⟩,
    ⟨(some 6), .assign (.const (.bool false)), none⟩] [4, 5, 6])
  .ret)
  .skip))
  (.seq (.reg [⟨(some 7), .assign (.const (.int .i64 0)), none⟩,
    ⟨(some 8), .assign (.const (.int .i64 (-1))), none⟩] [0, 1, 7, 8])
  (.seq (.seq (.reg [⟨(some 19), .move (.tmp 0), none⟩,
    ⟨(some 20), .call ⟨.builtin .len, #[(.tmp 19)], #[34]⟩, none⟩,
    ⟨(some 21), .move (.const (.int .i64 0)), none⟩] [1, 7, 8, 19, 20, 21])
  (.block 0 (.loop impl_LatestUse_l0)))
  (.seq (.reg [⟨(some 40), .move (.tmp 7), none⟩,
    ⟨(some 41), .move (.tmp 8), none⟩,
    ⟨(some 42), .call ⟨.builtin .max, #[(.tmp 41), (.const (.int .i64 0))], #[3, 3]⟩, none⟩,
    ⟨(some 43), .move (.tmp 8), none⟩,
    ⟨(some 44), .binOp .geq 3 (.tmp 43) (.const (.int .i64 0)) 3, none⟩,
    ⟨(some 4), .assign (.tmp 40), none⟩,
    ⟨(some 5), .assign (.tmp 42), none⟩,
    ⟨(some 6), .assign (.tmp 44), none⟩] [4, 5, 6])
  .ret)))))
theorem impl_LatestUse_k : fnOk Tryd.prog (fun _ => false) 27 = some (impl_LatestUse_c.strip, 45, [.tmp 4, .tmp 5, .tmp 6]) := by kernel_rfl
/-- head: [0, 1, 6, 7, 8] -/
def spec_GapBetween_l0 : ACode := (.seq (.seq (.reg [⟨(some 21), .move (.tmp 8), none⟩,
    ⟨(some 22), .move (.tmp 0), none⟩,
    ⟨(some 23), .call ⟨.builtin .len, #[(.tmp 22)], #[34]⟩, none⟩,
    ⟨(some 24), .binOp .lss 3 (.tmp 21) (.tmp 23) 3, none⟩] [0, 1, 6, 7, 8, 24])
  (.cond (.tmp 24) .skip
  (.exit 0)))
  (.seq (.block 1 (.seq (.reg [⟨(some 27), .move (.tmp 0), none⟩,
    ⟨(some 28), .move (.tmp 8), none⟩,
    ⟨(some 29), .indexAddr 34 (.tmp 27) (.tmp 28), none⟩,
    ⟨(some 30), .fieldAddr 26 (.tmp 29) 1, none⟩,
    ⟨(some 31), .load 9 (.tmp 30), none⟩,
    ⟨(some 32), .move (.tmp 1), none⟩,
    ⟨(some 33), .binOp .eql 9 (.tmp 31) (.tmp 32) 9, none⟩] [0, 1, 6, 7, 8, 33])
  (.cond (.tmp 33) (.seq (.reg [⟨(some 34), .move (.tmp 6), none⟩,
    ⟨(some 35), .move (.tmp 0), none⟩,
    ⟨(some 36), .move (.tmp 8), none⟩,
    ⟨(some 37), .indexAddr 34 (.tmp 35) (.tmp 36), none⟩,
    ⟨(some 38), .fieldAddr 26 (.tmp 37) 3, none⟩,
    ⟨(some 39), .load 3 (.tmp 38), none⟩,
    ⟨(some 40), .call ⟨.value (.func 68), #[(.tmp 34), (.tmp 39)], #[3, 3]⟩, none⟩,
    ⟨(some 6), .assign (.tmp 40), none⟩] [0, 1, 6, 7, 8])
  (.reg [⟨(some 41), .move (.tmp 7), none⟩,
    ⟨(some 42), .move (.tmp 0), none⟩,
    ⟨(some 43), .move (.tmp 8), none⟩,
    ⟨(some 44), .indexAddr 34 (.tmp 42) (.tmp 43), none⟩,
    ⟨(some 45), .fieldAddr 26 (.tmp 44) 4, none⟩,
    ⟨(some 46), .load 3 (.tmp 45), none⟩,
    ⟨(some 47), .call ⟨.value (.func 69), #[(.tmp 41), (.tmp 46)], #[3, 3]⟩, none⟩,
    ⟨(some 7), .assign (.tmp 47), none⟩] [0, 1, 6, 7, 8]))
  .skip)))
  (.reg [⟨(some 25), .move (.tmp 8), none⟩,
    ⟨(some 26), .binOp .add 3 (.tmp 25) (.const (.int .i64 1)) 3, none⟩,
    ⟨(some 8), .assign (.tmp 26), none⟩] [0, 1, 6, 7, 8])))
/-- head: [0, 1, 7, 9, 10, 11, 12] -/
def spec_GapBetween_l1 : ACode := (.seq (.seq (.reg [⟨(some 56), .move (.tmp 12), none⟩,
    ⟨(some 57), .move (.tmp 0), none⟩,
    ⟨(some 58), .call ⟨.builtin .len, #[(.tmp 57)], #[34]⟩, none⟩,
    ⟨(some 59), .binOp .lss 3 (.tmp 56) (.tmp 58) 3, none⟩] [0, 1, 7, 9, 10, 11, 12, 59])
  (.cond (.tmp 59) .skip
  (.exit 4)))
  (.seq (.block 5 (.reg [⟨(some 62), .move (.tmp 11), none⟩,
    ⟨(some 63), .move (.tmp 62), none⟩,
    ⟨(some 64), .move (.tmp 0), (some (some 63, false))⟩,
    ⟨(some 65), .move (.tmp 12), (some (some 63, false))⟩,
    ⟨(some 66), .indexAddr 34 (.tmp 64) (.tmp 65), (some (some 63, false))⟩,
    ⟨(some 67), .fieldAddr 26 (.tmp 66) 1, (some (some 63, false))⟩,
    ⟨(some 68), .load 9 (.tmp 67), (some (some 63, false))⟩,
    ⟨(some 69), .move (.tmp 1), (some (some 63, false))⟩,
    ⟨(some 70), .binOp .eql 9 (.tmp 68) (.tmp 69) 9, (some (some 63, false))⟩,
    ⟨(some 71), .move (.tmp 70), (some (some 63, false))⟩,
    ⟨(some 72), .move (.tmp 0), (some (some 71, true))⟩,
    ⟨(some 73), .move (.tmp 12), (some (some 71, true))⟩,
    ⟨(some 74), .indexAddr 34 (.tmp 72) (.tmp 73), (some (some 71, true))⟩,
    ⟨(some 75), .load 26 (.tmp 74), (some (some 71, true))⟩,
    ⟨(some 76), .move (.tmp 10), (some (some 71, true))⟩,
    ⟨(some 77), .call ⟨.value (.func 70), #[(.tmp 75), (.tmp 76)], #[26, 3]⟩, (some (some 71, true))⟩,
    ⟨(some 78), .pick (.tmp 71) (.tmp 77) (.const (.bool false)), (some (some 63, false))⟩,
    ⟨(some 79), .pick (.tmp 63) (.const (.bool true)) (.tmp 78), none⟩,
    ⟨(some 11), .assign (.tmp 79), none⟩] [0, 1, 7, 9, 10, 11, 12]))
  (.reg [⟨(some 60), .move (.tmp 12), none⟩,
    ⟨(some 61), .binOp .add 3 (.tmp 60) (.const (.int .i64 1)) 3, none⟩,
    ⟨(some 12), .assign (.tmp 61), none⟩] [0, 1, 7, 9, 10, 11, 12])))
/-- head: [0, 1, 7, 9, 10] -/
def spec_GapBetween_l2 : ACode := (.seq (.seq (.reg [⟨(some 51), .move (.tmp 10), none⟩,
    ⟨(some 52), .move (.tmp 7), none⟩,
    ⟨(some 53), .binOp .leq 3 (.tmp 51) (.tmp 52) 3, none⟩] [0, 1, 7, 9, 10, 53])
  (.cond (.tmp 53) .skip
  (.exit 2)))
  (.seq (.block 3 (.seq (.reg [⟨(some 11), .assign (.const (.bool false)), none⟩] [0, 1, 7, 9, 10, 11])
  (.seq (.seq (.reg [⟨(some 12), .assign (.const (.int .i64 0)), none⟩] [0, 1, 7, 9, 10, 11, 12])
  (.block 4 (.loop spec_GapBetween_l1)))
  (.seq (.reg [⟨(some 80), .move (.tmp 11), none⟩,
    ⟨(some 81), .unOp .not 4 (.tmp 80), none⟩] [0, 1, 7, 9, 10, 81])
  (.cond (.tmp 81) (.reg [⟨(some 82), .move (.tmp 9), none⟩,
    ⟨(some 83), .binOp .add 3 (.tmp 82) (.const (.int .i64 1)) 3, none⟩,
    ⟨(some 9), .assign (.tmp 83), none⟩] [0, 1, 7, 9, 10])
  .skip)))))
  (.reg [⟨(some 54), .move (.tmp 10), none⟩,
    ⟨(some 55), .binOp .add 3 (.tmp 54) (.const (.int .i64 1)) 3, none⟩,
    ⟨(some 10), .assign (.tmp 55), none⟩] [0, 1, 7, 9, 10])))
/-- loop.example/g01062/spec.GapBetween: number 28, params [0, 1] -/
def spec_GapBetween_c : ACode := (.seq (.reg [⟨(some 4), .assign (.const (.int .i64 0)), none⟩,
    ⟨(some 5), .assign (.const (.bool false)), none⟩] [0, 1])
  (.seq (.seq (.reg [⟨(some 13), .move (.tmp 0), none⟩,
    ⟨(some 14), .call ⟨.value (.func 63), #[(.tmp 13)], #[34]⟩, none⟩,
    ⟨(some 15), .unOp .not 4 (.tmp 14), none⟩,
    ⟨(some 16), .move (.tmp 15), none⟩,
    ⟨(some 17), .move (.tmp 1), (some (some 16, false))⟩,
    ⟨(some 18), .call ⟨.value (.func 66), #[(.tmp 17)], #[9]⟩, (some (some 16, false))⟩,
    ⟨(some 19), .unOp .not 4 (.tmp 18), (some (some 16, false))⟩,
    ⟨(some 20), .pick (.tmp 16) (.const (.bool true)) (.tmp 19), none⟩] [0, 1, 20])
  (.cond (.tmp 20) (.seq (.reg [⟨(some 4), .assign (.const (.int .i64 0)), none⟩,
    ⟨(some 5), .assign (.const (.bool false)), none⟩] [4, 5])
  .ret)
  .skip))
  (.seq (.reg [⟨(some 6), .assign (.const (.int .i64 4000)), none⟩,
    ⟨(some 7), .assign (.const (.int .i64 (-1))), none⟩] [0, 1, 6, 7])
  (.seq (.seq (.reg [⟨(some 8), .assign (.const (.int .i64 0)), none⟩] [0, 1, 6, 7, 8])
  (.block 0 (.loop spec_GapBetween_l0)))
  (.seq (.seq (.reg [⟨(some 48), .move (.tmp 7), none⟩,
    ⟨(some 49), .binOp .lss 3 (.tmp 48) (.const (.int .i64 0)) 3, none⟩] [0, 1, 6, 7, 49])
  (.cond (.tmp 49) (.seq (.reg [⟨(some 4), .assign (.const (.int .i64 0)), none⟩,
    ⟨(some 5), .assign (.const (.bool false)), none⟩] [4, 5])
  .ret)
  .skip))
  (.seq (.reg [⟨(some 9), .assign (.const (.int .i64 0)), none⟩] [0, 1, 6, 7, 9])
  (.seq (.seq (.reg [⟨(some 50), .move (.tmp 6), none⟩,
    ⟨(some 10), .assign (.tmp 50), none⟩] [0, 1, 7, 9, 10])
  (.block 2 (.loop spec_GapBetween_l2)))
  (.seq (.reg [⟨(some 84), .move (.tmp 9), none⟩,
    ⟨(some 4), .assign (.tmp 84), none⟩,
    ⟨(some 5), .assign (.const (.bool true)), none⟩] [4, 5])
  .ret))))))))
theorem spec_GapBetween_k : fnOk Tryd.prog (fun _ => false) 28 = some (spec_GapBetween_c.strip, 85, [.tmp 4, .tmp 5]) := by kernel_rfl
/-- head: [1, 6, 7, 8, 10, 11, 23, 24, 25] -/
def impl_GapBetween_l0 : ACode := (.seq (.seq (.reg [⟨(some 43), .move (.tmp 11), none⟩,
    ⟨(some 44), .fieldAddr 26 (.tmp 10) 4, none⟩,
    ⟨(some 45), .load 3 (.tmp 44), none⟩,
    ⟨(some 46), .binOp .leq 3 (.tmp 43) (.tmp 45) 3, none⟩] [1, 6, 7, 8, 10, 11, 23, 24, 25, 46])
  (.cond (.tmp 46) .skip
  (.exit 2)))
  (.seq (.block 3 (.reg [⟨(some 49), .move (.tmp 6), none⟩,
    ⟨(some 50), .move (.tmp 11), none⟩,
    ⟨(some 51), .indexAddr 78 (.tmp 49) (.tmp 50), none⟩,
    ⟨none, .store 4 (.tmp 51) (.const (.bool true)), none⟩] [1, 6, 7, 8, 10, 11, 23, 24, 25]))
  (.reg [⟨(some 47), .move (.tmp 11), none⟩,
    ⟨(some 48), .binOp .add 3 (.tmp 47) (.const (.int .i64 1)) 3, none⟩,
    ⟨(some 11), .assign (.tmp 48), none⟩] [1, 6, 7, 8, 10, 11, 23, 24, 25])))
/-- head: [1, 6, 7, 8, 23, 24, 25] -/
def impl_GapBetween_l1 : ACode := (.seq (.reg [⟨(some 26), .binOp .lss 3 (.tmp 25) (.tmp 24) 3, none⟩] [1, 6, 7, 8, 23, 24, 25, 26])
  (.seq (.cond (.tmp 26) .skip
  (.exit 0))
  (.seq (.block 1 (.seq (.reg [⟨(some 27), .indexAddr 34 (.tmp 23) (.tmp 25), none⟩,
    ⟨(some 28), .load 26 (.tmp 27), none⟩,
    ⟨(some 10), .alloc 26, none⟩,
    ⟨none, .store 26 (.tmp 10) (.tmp 28), none⟩] [1, 6, 7, 8, 10, 23, 24, 25])
  (.seq (.seq (.reg [⟨(some 29), .fieldAddr 26 (.tmp 10) 1, none⟩,
    ⟨(some 30), .load 9 (.tmp 29), none⟩,
    ⟨(some 31), .move (.tmp 1), none⟩,
    ⟨(some 32), .binOp .neq 9 (.tmp 30) (.tmp 31) 9, none⟩] [1, 6, 7, 8, 10, 23, 24, 25, 32])
  (.cond (.tmp 32) (.exit 1)
  .skip))
  (.seq (.regQ [⟨(some 33), .move (.tmp 7), none⟩,
    ⟨(some 34), .fieldAddr 26 (.tmp 10) 3, none⟩,
    ⟨(some 35), .load 3 (.tmp 34), none⟩,
    ⟨(some 36), .call ⟨.builtin .min, #[(.tmp 33), (.tmp 35)], #[3, 3]⟩, none⟩,
    ⟨(some 37), .move (.tmp 8), none⟩,
    ⟨(some 38), .fieldAddr 26 (.tmp 10) 4, none⟩,
    ⟨(some 39), .load 3 (.tmp 38), none⟩,
    ⟨(some 40), .call ⟨.builtin .max, #[(.tmp 37), (.tmp 39)], #[3, 3]⟩, none⟩,
    ⟨(some 7), .assign (.tmp 36), none⟩,
    ⟨(some 8), .assign (.tmp 40), none⟩] [1, 6, 7, 8, 10, 23, 24, 25])
  (.seq (.reg [⟨(some 41), .fieldAddr 26 (.tmp 10) 3, none⟩,
    ⟨(some 42), .load 3 (.tmp 41), none⟩,
    ⟨(some 11), .assign (.tmp 42), none⟩] [1, 6, 7, 8, 10, 11, 23, 24, 25])
  (.block 2 (.loop impl_GapBetween_l0)))))))
  (.reg [⟨(some 52), .binOp .add 3 (.tmp 25) (.const (.int .i64 1)) 3, none⟩,
    ⟨(some 25), .move (.tmp 52), none⟩] [1, 6, 7, 8, 23, 24, 25]))))
/-- head: [6, 8, 12, 13] -/
def impl_GapBetween_l2 : ACode := (.seq (.seq (.reg [⟨(some 56), .move (.tmp 13), none⟩,
    ⟨(some 57), .move (.tmp 8), none⟩,
    ⟨(some 58), .binOp .leq 3 (.tmp 56) (.tmp 57) 3, none⟩] [6, 8, 12, 13, 58])
  (.cond (.tmp 58) .skip
  (.exit 4)))
  (.seq (.block 5 (.seq (.reg [⟨(some 61), .move (.tmp 6), none⟩,
    ⟨(some 62), .move (.tmp 13), none⟩,
    ⟨(some 63), .indexAddr 78 (.tmp 61) (.tmp 62), none⟩,
    ⟨(some 64), .load 4 (.tmp 63), none⟩,
    ⟨(some 65), .unOp .not 4 (.tmp 64), none⟩] [6, 8, 12, 13, 65])
  (.cond (.tmp 65) (.reg [⟨(some 66), .move (.tmp 12), none⟩,
    ⟨(some 67), .binOp .add 3 (.tmp 66) (.const (.int .i64 1)) 3, none⟩,
    ⟨(some 12), .assign (.tmp 67), none⟩] [6, 8, 12, 13])
  .skip)))
  (.reg [⟨(some 59), .move (.tmp 13), none⟩,
    ⟨(some 60), .binOp .add 3 (.tmp 59) (.const (.int .i64 1)) 3, none⟩,
    ⟨(some 13), .assign (.tmp 60), none⟩] [6, 8, 12, 13])))
/-- loop.example/g01062/impl.GapBetween: number 29, params [0, 1] -/
def impl_GapBetween_c : ACode := (.seq (.reg [⟨(some 4), .assign (.const (.int .i64 0)), none⟩,
    ⟨(some 5), .assign (.const (.bool false)), none⟩] [0, 1])
  (.seq (.seq (.reg [⟨(some 14), .move (.tmp 0), none⟩,
    ⟨(some 15), .call ⟨.value (.func 64), #[(.tmp 14)], #[34]⟩, none⟩,
    ⟨(some 16), .unOp .not 4 (.tmp 15), none⟩,
    ⟨(some 17), .move (.tmp 16), none⟩,
    ⟨(some 18), .move (.tmp 1), (some (some 17, false))⟩,
    ⟨(some 19), .call ⟨.value (.func 67), #[(.tmp 18)], #[9]⟩, (some (some 17, false))⟩,
    ⟨(some 20), .unOp .not 4 (.tmp 19), (some (some 17, false))⟩,
    ⟨(some 21), .pick (.tmp 17) (.const (.bool true)) (.tmp 20), none⟩] [0, 1, 21])
  (.cond (.tmp 21) (.seq (.reg [⟨(some 4), .assign (.const (.int .i64 0)), none⟩,
    ⟨(some 5), .assign (.const (.bool false)), none⟩] [4, 5])
  .ret)
  .skip))
  (.seq (.reg [⟨(some 22), .makeSlice 78 (.const (.int .i64 4001)) (.const (.int .i64 4001)), none⟩,
    ⟨(some 6), .assign (.tmp 22), none⟩] [0, 1, 6])
  (.seq (.reg [⟨(some 7), .assign (.const (.int .i64 4001)), none⟩,
    ⟨(some 8), .assign (.const (.int .i64 (-1))), none⟩] [0, 1, 6, 7, 8])
  (.seq (.seq (.reg [⟨(some 23), .move (.tmp 0), none⟩,
    ⟨(some 24), .call ⟨.builtin .len, #[(.tmp 23)], #[34]⟩, none⟩,
    ⟨(some 25), .move (.const (.int .i64 0)), none⟩] [1, 6, 7, 8, 23, 24, 25])
  (.block 0 (.loop impl_GapBetween_l1)))
  (.seq (.seq (.reg [⟨(some 53), .move (.tmp 8), none⟩,
    ⟨(some 54), .binOp .lss 3 (.tmp 53) (.const (.int .i64 0)) 3, none⟩] [6, 7, 8, 54])
  (.cond (.tmp 54) (.seq (.reg [⟨(some 4), .assign (.const (.int .i64 0)), none⟩,
    ⟨(some 5), .assign (.const (.bool false)), none⟩] [4, 5])
  .ret)
  .skip))
  (.seq (.reg [⟨(some 12), .assign (.const (.int .i64 0)), none⟩] [6, 7, 8, 12])
  (.seq (.seq (.reg [⟨(some 55), .move (.tmp 7), none⟩,
    ⟨(some 13), .assign (.tmp 55), none⟩] [6, 8, 12, 13])
  (.block 4 (.loop impl_GapBetween_l2)))
  (.seq (.reg [⟨(some 68), .move (.tmp 12), none⟩,
    ⟨(some 4), .assign (.tmp 68), none⟩,
    ⟨(some 5), .assign (.const (.bool true)), none⟩] [4, 5])
  .ret)))))))))
theorem impl_GapBetween_k : fnOk Tryd.prog (fun _ => false) 29 = some (impl_GapBetween_c.strip, 69, [.tmp 4, .tmp 5]) := by kernel_rfl
/-- loop.example/g01062/spec.SameTown: number 30, params [0, 1, 2] -/
def spec_SameTown_c : ACode := (.seq (.reg [⟨(some 6), .assign (.const (.bool false)), none⟩,
    ⟨(some 7), .assign (.const (.bool false)), none⟩] [0, 1, 2])
  (.seq (.reg [⟨(some 10), .move (.tmp 0), none⟩,
    ⟨(some 11), .move (.tmp 1), none⟩,
    ⟨(some 12), .call ⟨.value (.func 71), #[(.tmp 10), (.tmp 11)], #[34, 3]⟩, none⟩,
    ⟨(some 13), .move (.tmp 0), none⟩,
    ⟨(some 14), .move (.tmp 2), none⟩,
    ⟨(some 15), .call ⟨.value (.func 71), #[(.tmp 13), (.tmp 14)], #[34, 3]⟩, none⟩,
    ⟨(some 8), .assign (.tmp 12), none⟩,
    ⟨(some 9), .assign (.tmp 15), none⟩] [0, 8, 9])
  (.seq (.seq (.reg [⟨(some 16), .move (.tmp 0), none⟩,
    ⟨(some 17), .call ⟨.value (.func 63), #[(.tmp 16)], #[34]⟩, none⟩,
    ⟨(some 18), .unOp .not 4 (.tmp 17), none⟩,
    ⟨(some 19), .move (.tmp 18), none⟩,
    ⟨(some 20), .move (.tmp 8), (some (some 19, false))⟩,
    ⟨(some 21), .binOp .lss 3 (.tmp 20) (.const (.int .i64 0)) 3, (some (some 19, false))⟩,
    ⟨(some 22), .pick (.tmp 19) (.const (.bool true)) (.tmp 21), none⟩,
    ⟨(some 23), .move (.tmp 22), none⟩,
    ⟨(some 24), .move (.tmp 9), (some (some 23, false))⟩,
    ⟨(some 25), .binOp .lss 3 (.tmp 24) (.const (.int .i64 0)) 3, (some (some 23, false))⟩,
    ⟨(some 26), .pick (.tmp 23) (.const (.bool true)) (.tmp 25), none⟩] [0, 8, 9, 26])
  (.cond (.tmp 26) (.seq (.reg [⟨(some 6), .assign (.const (.bool false)), none⟩,
    ⟨(some 7), .assign (.const (.bool false)), none⟩] [6, 7])
  .ret)
  .skip))
  (.seq (.regQ [⟨(some 27), .move (.tmp 0), none⟩,
    ⟨(some 28), .move (.tmp 8), none⟩,
    ⟨(some 29), .indexAddr 34 (.tmp 27) (.tmp 28), none⟩,
    ⟨(some 30), .load 26 (.tmp 29), none⟩,
    ⟨(some 31), .call ⟨.value (.func 61), #[(.tmp 30)], #[26]⟩, none⟩,
    ⟨(some 32), .move (.tmp 0), none⟩,
    ⟨(some 33), .move (.tmp 9), none⟩,
    ⟨(some 34), .indexAddr 34 (.tmp 32) (.tmp 33), none⟩,
    ⟨(some 35), .load 26 (.tmp 34), none⟩,
    ⟨(some 36), .call ⟨.value (.func 61), #[(.tmp 35)], #[26]⟩, none⟩,
    ⟨(some 37), .call ⟨.value (.func 72), #[(.tmp 31), (.tmp 36)], #[9, 9]⟩, none⟩,
    ⟨(some 6), .assign (.tmp 37), none⟩,
    ⟨(some 7), .assign (.const (.bool true)), none⟩] [6, 7])
  .ret))))
theorem spec_SameTown_k : fnOk Tryd.prog (fun _ => false) 30 = some (spec_SameTown_c.strip, 38, [.tmp 6, .tmp 7]) := by kernel_rfl
/-- loop.example/g01062/impl.SameTown: number 31, params [0, 1, 2] -/
def impl_SameTown_c : ACode := (.seq (.reg [⟨(some 6), .assign (.const (.bool false)), none⟩,
    ⟨(some 7), .assign (.const (.bool false)), none⟩] [0, 1, 2])
  (.seq (.reg [⟨(some 10), .move (.tmp 0), none⟩,
    ⟨(some 11), .move (.tmp 1), none⟩,
    ⟨(some 12), .call ⟨.value (.func 73), #[(.tmp 10), (.tmp 11)], #[34, 3]⟩, none⟩,
    ⟨(some 13), .move (.tmp 0), none⟩,
    ⟨(some 14), .move (.tmp 2), none⟩,
    ⟨(some 15), .call ⟨.value (.func 73), #[(.tmp 13), (.tmp 14)], #[34, 3]⟩, none⟩,
    ⟨(some 8), .assign (.tmp 12), none⟩,
    ⟨(some 9), .assign (.tmp 15), none⟩] [0, 8, 9])
  (.seq (.seq (.reg [⟨(some 16), .move (.tmp 0), none⟩,
    ⟨(some 17), .call ⟨.value (.func 64), #[(.tmp 16)], #[34]⟩, none⟩,
    ⟨(some 18), .unOp .not 4 (.tmp 17), none⟩,
    ⟨(some 19), .move (.tmp 18), none⟩,
    ⟨(some 20), .move (.tmp 8), (some (some 19, false))⟩,
    ⟨(some 21), .binOp .lss 3 (.tmp 20) (.const (.int .i64 0)) 3, (some (some 19, false))⟩,
    ⟨(some 22), .pick (.tmp 19) (.const (.bool true)) (.tmp 21), none⟩,
    ⟨(some 23), .move (.tmp 22), none⟩,
    ⟨(some 24), .move (.tmp 9), (some (some 23, false))⟩,
    ⟨(some 25), .binOp .lss 3 (.tmp 24) (.const (.int .i64 0)) 3, (some (some 23, false))⟩,
    ⟨(some 26), .pick (.tmp 23) (.const (.bool true)) (.tmp 25), none⟩] [0, 8, 9, 26])
  (.cond (.tmp 26) (.seq (.reg [⟨(some 6), .assign (.const (.bool false)), none⟩,
    ⟨(some 7), .assign (.const (.bool false)), none⟩] [6, 7])
  .ret)
  .skip))
  (.seq (.regQ [⟨(some 27), .move (.tmp 0), none⟩,
    ⟨(some 28), .move (.tmp 8), none⟩,
    ⟨(some 29), .indexAddr 34 (.tmp 27) (.tmp 28), none⟩,
    ⟨(some 30), .load 26 (.tmp 29), none⟩,
    ⟨(some 31), .call ⟨.value (.func 62), #[(.tmp 30)], #[26]⟩, none⟩,
    ⟨(some 32), .move (.tmp 0), none⟩,
    ⟨(some 33), .move (.tmp 9), none⟩,
    ⟨(some 34), .indexAddr 34 (.tmp 32) (.tmp 33), none⟩,
    ⟨(some 35), .load 26 (.tmp 34), none⟩,
    ⟨(some 36), .call ⟨.value (.func 62), #[(.tmp 35)], #[26]⟩, none⟩,
    ⟨(some 37), .call ⟨.value (.func 74), #[(.tmp 31), (.tmp 36)], #[9, 9]⟩, none⟩,
    ⟨(some 6), .assign (.tmp 37), none⟩,
    ⟨(some 7), .assign (.const (.bool true)), none⟩] [6, 7])
  .ret))))
theorem impl_SameTown_k : fnOk Tryd.prog (fun _ => false) 31 = some (impl_SameTown_c.strip, 38, [.tmp 6, .tmp 7]) := by kernel_rfl
/-- loop.example/g01062/spec.LoseLetter: number 32, params [0, 1, 2] -/
def spec_LoseLetter_c : ACode := (.seq (.reg [⟨(some 6), .assign (.const (.slice none 0 0)), none⟩,
    ⟨(some 7), .assign (.const (.bool false)), none⟩] [0, 1, 2])
  (.seq (.reg [⟨(some 11), .move (.tmp 0), none⟩,
    ⟨(some 12), .move (.tmp 1), none⟩,
    ⟨(some 13), .call ⟨.value (.func 71), #[(.tmp 11), (.tmp 12)], #[34, 3]⟩, none⟩,
    ⟨(some 8), .assign (.tmp 13), none⟩] [0, 2, 8])
  (.seq (.seq (.reg [⟨(some 14), .move (.tmp 0), none⟩,
    ⟨(some 15), .call ⟨.value (.func 63), #[(.tmp 14)], #[34]⟩, none⟩,
    ⟨(some 16), .unOp .not 4 (.tmp 15), none⟩,
    ⟨(some 17), .move (.tmp 16), none⟩,
    ⟨(some 18), .move (.tmp 8), (some (some 17, false))⟩,
    ⟨(some 19), .binOp .lss 3 (.tmp 18) (.const (.int .i64 0)) 3, (some (some 17, false))⟩,
    ⟨(some 20), .pick (.tmp 17) (.const (.bool true)) (.tmp 19), none⟩,
    ⟨(some 21), .move (.tmp 20), none⟩,
    ⟨(some 22), .move (.tmp 2), (some (some 21, false))⟩,
    ⟨(some 23), .move (.tmp 0), (some (some 21, false))⟩,
    ⟨(some 24), .move (.tmp 8), (some (some 21, false))⟩,
    ⟨(some 25), .indexAddr 34 (.tmp 23) (.tmp 24), (some (some 21, false))⟩,
    ⟨(some 26), .fieldAddr 26 (.tmp 25) 5, (some (some 21, false))⟩,
    ⟨(some 27), .load 9 (.tmp 26), (some (some 21, false))⟩,
    ⟨(some 28), .call ⟨.builtin .len, #[(.tmp 27)], #[9]⟩, (some (some 21, false))⟩,
    ⟨(some 29), .binOp .sub 3 (.tmp 28) (.const (.int .i64 1)) 3, (some (some 21, false))⟩,
    ⟨(some 30), .call ⟨.value (.func 75), #[(.tmp 22), (.const (.int .i64 0)), (.tmp 29)], #[3, 3, 3]⟩, (some (some 21, false))⟩,
    ⟨(some 31), .unOp .not 4 (.tmp 30), (some (some 21, false))⟩,
    ⟨(some 32), .pick (.tmp 21) (.const (.bool true)) (.tmp 31), none⟩,
    ⟨(some 33), .move (.tmp 32), none⟩,
    ⟨(some 34), .move (.tmp 0), (some (some 33, false))⟩,
    ⟨(some 35), .move (.tmp 8), (some (some 33, false))⟩,
    ⟨(some 36), .indexAddr 34 (.tmp 34) (.tmp 35), (some (some 33, false))⟩,
    ⟨(some 37), .fieldAddr 26 (.tmp 36) 5, (some (some 33, false))⟩,
    ⟨(some 38), .load 9 (.tmp 37), (some (some 33, false))⟩,
    ⟨(some 39), .move (.tmp 2), (some (some 33, false))⟩,
    ⟨(some 40), .index 9 (.tmp 38) (.tmp 39), (some (some 33, false))⟩,
    ⟨(some 41), .binOp .eql 5 (.tmp 40) (.const (.int .u8 120)) 5, (some (some 33, false))⟩,
    ⟨(some 42), .pick (.tmp 33) (.const (.bool true)) (.tmp 41), none⟩] [0, 2, 8, 42])
  (.cond (.tmp 42) (.seq (.reg [⟨(some 43), .buildSlice 34 0 #[], none⟩,
    ⟨(some 6), .assign (.tmp 43), none⟩,
    ⟨(some 7), .assign (.const (.bool false)), none⟩] [6, 7])
  .ret)
  .skip))
  (.seq (.reg [⟨(some 44), .buildSlice 34 0 #[], none⟩,
    ⟨(some 45), .move (.tmp 0), none⟩,
    ⟨(some 46), .call ⟨.builtin .append, #[(.tmp 44), (.tmp 45)], #[34, 34]⟩, none⟩,
    ⟨(some 9), .assign (.tmp 46), none⟩] [2, 8, 9])
  (.seq (.reg [⟨(some 47), .move (.tmp 9), none⟩,
    ⟨(some 48), .move (.tmp 8), none⟩,
    ⟨(some 49), .indexAddr 34 (.tmp 47) (.tmp 48), none⟩,
    ⟨(some 50), .load 26 (.tmp 49), none⟩,
    ⟨(some 10), .alloc 26, none⟩,
    ⟨none, .store 26 (.tmp 10) (.tmp 50), none⟩] [2, 8, 9, 10])
  (.seq (.regT [⟨(some 51), .fieldAddr 26 (.tmp 10) 5, none⟩,
    ⟨(some 52), .load 9 (.tmp 51), none⟩,
    ⟨(some 53), .move (.tmp 2), none⟩,
    ⟨(some 54), .slice 9 (.tmp 52) none (some (.tmp 53)) none, none⟩,
    ⟨(some 55), .binOp .add 9 (.tmp 54) (.const (.string ⟨#[120]⟩)) 9, none⟩,
    ⟨(some 56), .fieldAddr 26 (.tmp 10) 5, none⟩,
    ⟨(some 57), .load 9 (.tmp 56), none⟩,
    ⟨(some 58), .move (.tmp 2), none⟩,
    ⟨(some 59), .binOp .add 3 (.tmp 58) (.const (.int .i64 1)) 3, none⟩,
    ⟨(some 60), .slice 9 (.tmp 57) (some (.tmp 59)) none none, none⟩,
    ⟨(some 61), .binOp .add 9 (.tmp 55) (.tmp 60) 9, none⟩,
    ⟨(some 62), .fieldAddr 26 (.tmp 10) 5, none⟩]
    [⟨none, .store 9 (.tmp 62) (.tmp 61), none⟩] [8, 9, 10])
  (.seq (.reg [⟨(some 63), .move (.tmp 9), none⟩,
    ⟨(some 64), .move (.tmp 8), none⟩,
    ⟨(some 65), .load 26 (.tmp 10), none⟩,
    ⟨(some 66), .indexAddr 34 (.tmp 63) (.tmp 64), none⟩,
    ⟨none, .store 26 (.tmp 66) (.tmp 65), none⟩] [9])
  (.seq (.seq (.reg [⟨(some 67), .move (.tmp 9), none⟩,
    ⟨(some 68), .call ⟨.value (.func 63), #[(.tmp 67)], #[34]⟩, none⟩,
    ⟨(some 69), .unOp .not 4 (.tmp 68), none⟩] [9, 69])
  (.cond (.tmp 69) (.seq (.reg [⟨(some 70), .buildSlice 34 0 #[], none⟩,
    ⟨(some 6), .assign (.tmp 70), none⟩,
    ⟨(some 7), .assign (.const (.bool false)), none⟩] [6, 7])
  .ret)
  .skip))
  (.seq (.reg [⟨(some 71), .move (.tmp 9), none⟩,
    ⟨(some 6), .assign (.tmp 71), none⟩,
    ⟨(some 7), .assign (.const (.bool true)), none⟩] [6, 7])
  .ret)))))))))
theorem spec_LoseLetter_k : fnOk Tryd.prog (fun _ => false) 32 = some (spec_LoseLetter_c.strip, 72, [.tmp 6, .tmp 7]) := by kernel_rfl
/-- loop.example/g01062/impl.LoseLetter: number 33, params [0, 1, 2] -/
def impl_LoseLetter_c : ACode := (.seq (.reg [⟨(some 6), .assign (.const (.slice none 0 0)), none⟩,
    ⟨(some 7), .assign (.const (.bool false)), none⟩] [0, 1, 2])
  (.seq (.reg [⟨(some 10), .move (.tmp 0), none⟩,
    ⟨(some 11), .move (.tmp 1), none⟩,
    ⟨(some 12), .call ⟨.value (.func 73), #[(.tmp 10), (.tmp 11)], #[34, 3]⟩, none⟩,
    ⟨(some 8), .assign (.tmp 12), none⟩] [0, 2, 8])
  (.seq (.seq (.reg [⟨(some 13), .move (.tmp 0), none⟩,
    ⟨(some 14), .call ⟨.value (.func 64), #[(.tmp 13)], #[34]⟩, none⟩,
    ⟨(some 15), .unOp .not 4 (.tmp 14), none⟩,
    ⟨(some 16), .move (.tmp 15), none⟩,
    ⟨(some 17), .move (.tmp 8), (some (some 16, false))⟩,
    ⟨(some 18), .binOp .lss 3 (.tmp 17) (.const (.int .i64 0)) 3, (some (some 16, false))⟩,
    ⟨(some 19), .pick (.tmp 16) (.const (.bool true)) (.tmp 18), none⟩,
    ⟨(some 20), .move (.tmp 19), none⟩,
    ⟨(some 21), .move (.tmp 2), (some (some 20, false))⟩,
    ⟨(some 22), .move (.tmp 0), (some (some 20, false))⟩,
    ⟨(some 23), .move (.tmp 8), (some (some 20, false))⟩,
    ⟨(some 24), .indexAddr 34 (.tmp 22) (.tmp 23), (some (some 20, false))⟩,
    ⟨(some 25), .fieldAddr 26 (.tmp 24) 1, (some (some 20, false))⟩,
    ⟨(some 26), .load 9 (.tmp 25), (some (some 20, false))⟩,
    ⟨(some 27), .call ⟨.builtin .len, #[(.tmp 26)], #[9]⟩, (some (some 20, false))⟩,
    ⟨(some 28), .binOp .sub 3 (.tmp 27) (.const (.int .i64 1)) 3, (some (some 20, false))⟩,
    ⟨(some 29), .call ⟨.value (.func 76), #[(.tmp 21), (.const (.int .i64 0)), (.tmp 28)], #[3, 3, 3]⟩, (some (some 20, false))⟩,
    ⟨(some 30), .unOp .not 4 (.tmp 29), (some (some 20, false))⟩,
    ⟨(some 31), .pick (.tmp 20) (.const (.bool true)) (.tmp 30), none⟩,
    ⟨(some 32), .move (.tmp 31), none⟩,
    ⟨(some 33), .move (.tmp 0), (some (some 32, false))⟩,
    ⟨(some 34), .move (.tmp 8), (some (some 32, false))⟩,
    ⟨(some 35), .indexAddr 34 (.tmp 33) (.tmp 34), (some (some 32, false))⟩,
    ⟨(some 36), .fieldAddr 26 (.tmp 35) 5, (some (some 32, false))⟩,
    ⟨(some 37), .load 9 (.tmp 36), (some (some 32, false))⟩,
    ⟨(some 38), .move (.tmp 2), (some (some 32, false))⟩,
    ⟨(some 39), .index 9 (.tmp 37) (.tmp 38), (some (some 32, false))⟩,
    ⟨(some 40), .binOp .eql 5 (.tmp 39) (.const (.int .u8 120)) 5, (some (some 32, false))⟩,
    ⟨(some 41), .pick (.tmp 32) (.const (.bool true)) (.tmp 40), none⟩] [0, 2, 8, 41])
  (.cond (.tmp 41) (.seq (.reg [⟨(some 6), .assign (.const (.slice none 0 0)), none⟩,
    ⟨(some 7), .assign (.const (.bool false)), none⟩] [6, 7])
  .ret)
  .skip))
  (.seq (.reg [⟨(some 42), .move (.tmp 0), none⟩,
    ⟨(some 43), .call ⟨.value (.func 77), #[(.tmp 42)], #[34]⟩, none⟩,
    ⟨(some 9), .assign (.tmp 43), none⟩] [0, 2, 8, 9])
  (.seq (.regT [⟨(some 44), .move (.tmp 9), none⟩,
    ⟨(some 45), .move (.tmp 8), none⟩,
    ⟨(some 46), .move (.tmp 0), none⟩,
    ⟨(some 47), .move (.tmp 8), none⟩,
    ⟨(some 48), .indexAddr 34 (.tmp 46) (.tmp 47), none⟩,
    ⟨(some 49), .fieldAddr 26 (.tmp 48) 5, none⟩,
    ⟨(some 50), .load 9 (.tmp 49), none⟩,
    ⟨(some 51), .move (.tmp 2), none⟩,
    ⟨(some 52), .slice 9 (.tmp 50) none (some (.tmp 51)) none, none⟩,
    ⟨(some 53), .binOp .add 9 (.tmp 52) (.const (.string ⟨#[120]⟩)) 9, none⟩,
    ⟨(some 54), .move (.tmp 0), none⟩,
    ⟨(some 55), .move (.tmp 8), none⟩,
    ⟨(some 56), .indexAddr 34 (.tmp 54) (.tmp 55), none⟩,
    ⟨(some 57), .fieldAddr 26 (.tmp 56) 5, none⟩,
    ⟨(some 58), .load 9 (.tmp 57), none⟩,
    ⟨(some 59), .move (.tmp 2), none⟩,
    ⟨(some 60), .binOp .add 3 (.tmp 59) (.const (.int .i64 1)) 3, none⟩,
    ⟨(some 61), .slice 9 (.tmp 58) (some (.tmp 60)) none none, none⟩,
    ⟨(some 62), .binOp .add 9 (.tmp 53) (.tmp 61) 9, none⟩,
    ⟨(some 63), .indexAddr 34 (.tmp 44) (.tmp 45), none⟩,
    ⟨(some 64), .fieldAddr 26 (.tmp 63) 5, none⟩]
    [⟨none, .store 9 (.tmp 64) (.tmp 62), none⟩] [9])
  (.seq (.seq (.reg [⟨(some 65), .move (.tmp 9), none⟩,
    ⟨(some 66), .call ⟨.value (.func 64), #[(.tmp 65)], #[34]⟩, none⟩,
    ⟨(some 67), .unOp .not 4 (.tmp 66), none⟩] [9, 67])
  (.cond (.tmp 67) (.seq (.reg [⟨(some 6), .assign (.const (.slice none 0 0)), none⟩,
    ⟨(some 7), .assign (.const (.bool false)), none⟩] [6, 7])
  .ret)
  .skip))
  (.seq (.reg [⟨(some 68), .move (.tmp 9), none⟩,
    ⟨(some 6), .assign (.tmp 68), none⟩,
    ⟨(some 7), .assign (.const (.bool true)), none⟩] [6, 7])
  .ret)))))))
theorem impl_LoseLetter_k : fnOk Tryd.prog (fun _ => false) 33 = some (impl_LoseLetter_c.strip, 69, [.tmp 6, .tmp 7]) := by kernel_rfl
/-- head: [0, 1, 5] -/
def laws_markPostmarkS_l0 : ACode := (.seq (.seq (.reg [⟨(some 6), .move (.tmp 5), none⟩,
    ⟨(some 7), .move (.tmp 0), none⟩,
    ⟨(some 8), .call ⟨.builtin .len, #[(.tmp 7)], #[34]⟩, none⟩,
    ⟨(some 9), .binOp .lss 3 (.tmp 6) (.tmp 8) 3, none⟩] [0, 1, 5, 9])
  (.cond (.tmp 9) .skip
  (.exit 0)))
  (.seq (.block 1 (.seq (.reg [⟨(some 12), .move (.tmp 0), none⟩,
    ⟨(some 13), .move (.tmp 5), none⟩,
    ⟨(some 14), .move (.tmp 1), none⟩,
    ⟨(some 15), .indexAddr 34 (.tmp 12) (.tmp 13), none⟩,
    ⟨(some 16), .fieldAddr 26 (.tmp 15) 0, none⟩,
    ⟨none, .store 3 (.tmp 16) (.tmp 14), none⟩] [0, 1, 5])
  (.seq (.reg [⟨(some 17), .move (.tmp 1), none⟩,
    ⟨(some 18), .binOp .add 3 (.tmp 17) (.const (.int .i64 1)) 3, none⟩,
    ⟨(some 1), .assign (.tmp 18), none⟩] [0, 1, 5])
  (.seq (.reg [⟨(some 19), .move (.tmp 0), none⟩,
    ⟨(some 20), .move (.tmp 5), none⟩,
    ⟨(some 21), .move (.tmp 1), none⟩,
    ⟨(some 22), .call ⟨.value (.func 78), #[(.tmp 21)], #[3]⟩, none⟩,
    ⟨(some 23), .indexAddr 34 (.tmp 19) (.tmp 20), none⟩,
    ⟨(some 24), .fieldAddr 26 (.tmp 23) 1, none⟩,
    ⟨none, .store 9 (.tmp 24) (.tmp 22), none⟩] [0, 1, 5])
  (.seq (.reg [⟨(some 25), .move (.tmp 1), none⟩,
    ⟨(some 26), .binOp .add 3 (.tmp 25) (.const (.int .i64 1)) 3, none⟩,
    ⟨(some 1), .assign (.tmp 26), none⟩] [0, 1, 5])
  (.seq (.reg [⟨(some 27), .move (.tmp 0), none⟩,
    ⟨(some 28), .move (.tmp 5), none⟩,
    ⟨(some 29), .move (.tmp 1), none⟩,
    ⟨(some 30), .indexAddr 34 (.tmp 27) (.tmp 28), none⟩,
    ⟨(some 31), .fieldAddr 26 (.tmp 30) 2, none⟩,
    ⟨none, .store 3 (.tmp 31) (.tmp 29), none⟩] [0, 1, 5])
  (.seq (.reg [⟨(some 32), .move (.tmp 1), none⟩,
    ⟨(some 33), .binOp .add 3 (.tmp 32) (.const (.int .i64 1)) 3, none⟩,
    ⟨(some 1), .assign (.tmp 33), none⟩] [0, 1, 5])
  (.seq (.reg [⟨(some 34), .move (.tmp 0), none⟩,
    ⟨(some 35), .move (.tmp 5), none⟩,
    ⟨(some 36), .move (.tmp 1), none⟩,
    ⟨(some 37), .indexAddr 34 (.tmp 34) (.tmp 35), none⟩,
    ⟨(some 38), .fieldAddr 26 (.tmp 37) 3, none⟩,
    ⟨none, .store 3 (.tmp 38) (.tmp 36), none⟩] [0, 1, 5])
  (.seq (.reg [⟨(some 39), .move (.tmp 1), none⟩,
    ⟨(some 40), .binOp .add 3 (.tmp 39) (.const (.int .i64 1)) 3, none⟩,
    ⟨(some 1), .assign (.tmp 40), none⟩] [0, 1, 5])
  (.seq (.reg [⟨(some 41), .move (.tmp 0), none⟩,
    ⟨(some 42), .move (.tmp 5), none⟩,
    ⟨(some 43), .move (.tmp 1), none⟩,
    ⟨(some 44), .indexAddr 34 (.tmp 41) (.tmp 42), none⟩,
    ⟨(some 45), .fieldAddr 26 (.tmp 44) 4, none⟩,
    ⟨none, .store 3 (.tmp 45) (.tmp 43), none⟩] [0, 1, 5])
  (.seq (.reg [⟨(some 46), .move (.tmp 1), none⟩,
    ⟨(some 47), .binOp .add 3 (.tmp 46) (.const (.int .i64 1)) 3, none⟩,
    ⟨(some 1), .assign (.tmp 47), none⟩] [0, 1, 5])
  (.seq (.reg [⟨(some 48), .move (.tmp 0), none⟩,
    ⟨(some 49), .move (.tmp 5), none⟩,
    ⟨(some 50), .move (.tmp 1), none⟩,
    ⟨(some 51), .call ⟨.value (.func 78), #[(.tmp 50)], #[3]⟩, none⟩,
    ⟨(some 52), .indexAddr 34 (.tmp 48) (.tmp 49), none⟩,
    ⟨(some 53), .fieldAddr 26 (.tmp 52) 5, none⟩,
    ⟨none, .store 9 (.tmp 53) (.tmp 51), none⟩] [0, 1, 5])
  (.reg [⟨(some 54), .move (.tmp 1), none⟩,
    ⟨(some 55), .binOp .add 3 (.tmp 54) (.const (.int .i64 1)) 3, none⟩,
    ⟨(some 1), .assign (.tmp 55), none⟩] [0, 1, 5])))))))))))))
  (.reg [⟨(some 10), .move (.tmp 5), none⟩,
    ⟨(some 11), .binOp .add 3 (.tmp 10) (.const (.int .i64 1)) 3, none⟩,
    ⟨(some 5), .assign (.tmp 11), none⟩] [0, 1, 5])))
/-- loop.example/g01062/laws.markPostmarkS: number 34, params [0, 1] -/
def laws_markPostmarkS_c : ACode := (.seq (.reg [⟨(some 4), .assign (.const (.int .i64 0)), none⟩] [0, 1])
  (.seq (.seq (.reg [⟨(some 5), .assign (.const (.int .i64 0)), none⟩] [0, 1, 5])
  (.block 0 (.loop laws_markPostmarkS_l0)))
  (.seq (.reg [⟨(some 56), .move (.tmp 1), none⟩,
    ⟨(some 4), .assign (.tmp 56), none⟩] [4])
  .ret)))
theorem laws_markPostmarkS_k : fnOk Tryd.prog (fun _ => false) 34 = some (laws_markPostmarkS_c.strip, 57, [.tmp 4]) := by kernel_rfl
/-- head: [0, 1, 5] -/
def laws_heldPostmarkS_l0 : ACode := (.seq (.seq (.reg [⟨(some 6), .move (.tmp 5), none⟩,
    ⟨(some 7), .move (.tmp 0), none⟩,
    ⟨(some 8), .call ⟨.builtin .len, #[(.tmp 7)], #[34]⟩, none⟩,
    ⟨(some 9), .binOp .lss 3 (.tmp 6) (.tmp 8) 3, none⟩] [0, 1, 5, 9])
  (.cond (.tmp 9) .skip
  (.exit 0)))
  (.seq (.block 1 (.seq (.seq (.reg [⟨(some 12), .move (.tmp 0), none⟩,
    ⟨(some 13), .move (.tmp 5), none⟩,
    ⟨(some 14), .indexAddr 34 (.tmp 12) (.tmp 13), none⟩,
    ⟨(some 15), .fieldAddr 26 (.tmp 14) 0, none⟩,
    ⟨(some 16), .load 3 (.tmp 15), none⟩,
    ⟨(some 17), .move (.tmp 1), none⟩,
    ⟨(some 18), .binOp .neq 3 (.tmp 16) (.tmp 17) 3, none⟩] [0, 1, 5, 18])
  (.cond (.tmp 18) (.seq (.reg [⟨(some 4), .assign (.const (.int .i64 (-1))), none⟩] [4])
  .ret)
  .skip))
  (.seq (.reg [⟨(some 19), .move (.tmp 1), none⟩,
    ⟨(some 20), .binOp .add 3 (.tmp 19) (.const (.int .i64 1)) 3, none⟩,
    ⟨(some 1), .assign (.tmp 20), none⟩] [0, 1, 5])
  (.seq (.seq (.regQ [⟨(some 21), .move (.tmp 0), none⟩,
    ⟨(some 22), .move (.tmp 5), none⟩,
    ⟨(some 23), .indexAddr 34 (.tmp 21) (.tmp 22), none⟩,
    ⟨(some 24), .fieldAddr 26 (.tmp 23) 1, none⟩,
    ⟨(some 25), .load 9 (.tmp 24), none⟩,
    ⟨(some 26), .move (.tmp 1), none⟩,
    ⟨(some 27), .call ⟨.value (.func 78), #[(.tmp 26)], #[3]⟩, none⟩,
    ⟨(some 28), .binOp .neq 9 (.tmp 25) (.tmp 27) 9, none⟩] [0, 1, 5, 28])
  (.cond (.tmp 28) (.seq (.reg [⟨(some 4), .assign (.const (.int .i64 (-1))), none⟩] [4])
  .ret)
  .skip))
  (.seq (.reg [⟨(some 29), .move (.tmp 1), none⟩,
    ⟨(some 30), .binOp .add 3 (.tmp 29) (.const (.int .i64 1)) 3, none⟩,
    ⟨(some 1), .assign (.tmp 30), none⟩] [0, 1, 5])
  (.seq (.seq (.reg [⟨(some 31), .move (.tmp 0), none⟩,
    ⟨(some 32), .move (.tmp 5), none⟩,
    ⟨(some 33), .indexAddr 34 (.tmp 31) (.tmp 32), none⟩,
    ⟨(some 34), .fieldAddr 26 (.tmp 33) 2, none⟩,
    ⟨(some 35), .load 3 (.tmp 34), none⟩,
    ⟨(some 36), .move (.tmp 1), none⟩,
    ⟨(some 37), .binOp .neq 3 (.tmp 35) (.tmp 36) 3, none⟩] [0, 1, 5, 37])
  (.cond (.tmp 37) (.seq (.reg [⟨(some 4), .assign (.const (.int .i64 (-1))), none⟩] [4])
  .ret)
  .skip))
  (.seq (.reg [⟨(some 38), .move (.tmp 1), none⟩,
    ⟨(some 39), .binOp .add 3 (.tmp 38) (.const (.int .i64 1)) 3, none⟩,
    ⟨(some 1), .assign (.tmp 39), none⟩] [0, 1, 5])
  (.seq (.seq (.reg [⟨(some 40), .move (.tmp 0), none⟩,
    ⟨(some 41), .move (.tmp 5), none⟩,
    ⟨(some 42), .indexAddr 34 (.tmp 40) (.tmp 41), none⟩,
    ⟨(some 43), .fieldAddr 26 (.tmp 42) 3, none⟩,
    ⟨(some 44), .load 3 (.tmp 43), none⟩,
    ⟨(some 45), .move (.tmp 1), none⟩,
    ⟨(some 46), .binOp .neq 3 (.tmp 44) (.tmp 45) 3, none⟩] [0, 1, 5, 46])
  (.cond (.tmp 46) (.seq (.reg [⟨(some 4), .assign (.const (.int .i64 (-1))), none⟩] [4])
  .ret)
  .skip))
  (.seq (.reg [⟨(some 47), .move (.tmp 1), none⟩,
    ⟨(some 48), .binOp .add 3 (.tmp 47) (.const (.int .i64 1)) 3, none⟩,
    ⟨(some 1), .assign (.tmp 48), none⟩] [0, 1, 5])
  (.seq (.seq (.reg [⟨(some 49), .move (.tmp 0), none⟩,
    ⟨(some 50), .move (.tmp 5), none⟩,
    ⟨(some 51), .indexAddr 34 (.tmp 49) (.tmp 50), none⟩,
    ⟨(some 52), .fieldAddr 26 (.tmp 51) 4, none⟩,
    ⟨(some 53), .load 3 (.tmp 52), none⟩,
    ⟨(some 54), .move (.tmp 1), none⟩,
    ⟨(some 55), .binOp .neq 3 (.tmp 53) (.tmp 54) 3, none⟩] [0, 1, 5, 55])
  (.cond (.tmp 55) (.seq (.reg [⟨(some 4), .assign (.const (.int .i64 (-1))), none⟩] [4])
  .ret)
  .skip))
  (.seq (.reg [⟨(some 56), .move (.tmp 1), none⟩,
    ⟨(some 57), .binOp .add 3 (.tmp 56) (.const (.int .i64 1)) 3, none⟩,
    ⟨(some 1), .assign (.tmp 57), none⟩] [0, 1, 5])
  (.seq (.seq (.regQ [⟨(some 58), .move (.tmp 0), none⟩,
    ⟨(some 59), .move (.tmp 5), none⟩,
    ⟨(some 60), .indexAddr 34 (.tmp 58) (.tmp 59), none⟩,
    ⟨(some 61), .fieldAddr 26 (.tmp 60) 5, none⟩,
    ⟨(some 62), .load 9 (.tmp 61), none⟩,
    ⟨(some 63), .move (.tmp 1), none⟩,
    ⟨(some 64), .call ⟨.value (.func 78), #[(.tmp 63)], #[3]⟩, none⟩,
    ⟨(some 65), .binOp .neq 9 (.tmp 62) (.tmp 64) 9, none⟩] [0, 1, 5, 65])
  (.cond (.tmp 65) (.seq (.reg [⟨(some 4), .assign (.const (.int .i64 (-1))), none⟩] [4])
  .ret)
  .skip))
  (.reg [⟨(some 66), .move (.tmp 1), none⟩,
    ⟨(some 67), .binOp .add 3 (.tmp 66) (.const (.int .i64 1)) 3, none⟩,
    ⟨(some 1), .assign (.tmp 67), none⟩] [0, 1, 5])))))))))))))
  (.reg [⟨(some 10), .move (.tmp 5), none⟩,
    ⟨(some 11), .binOp .add 3 (.tmp 10) (.const (.int .i64 1)) 3, none⟩,
    ⟨(some 5), .assign (.tmp 11), none⟩] [0, 1, 5])))
/-- loop.example/g01062/laws.heldPostmarkS: number 35, params [0, 1] -/
def laws_heldPostmarkS_c : ACode := (.seq (.reg [⟨(some 4), .assign (.const (.int .i64 0)), none⟩] [0, 1])
  (.seq (.seq (.reg [⟨(some 5), .assign (.const (.int .i64 0)), none⟩] [0, 1, 5])
  (.block 0 (.loop laws_heldPostmarkS_l0)))
  (.seq (.reg [⟨(some 68), .move (.tmp 1), none⟩,
    ⟨(some 4), .assign (.tmp 68), none⟩] [4])
  .ret)))
theorem laws_heldPostmarkS_k : fnOk Tryd.prog (fun _ => false) 35 = some (laws_heldPostmarkS_c.strip, 69, [.tmp 4]) := by kernel_rfl
/-- loop.example/g01062/spec.ExtendUse: number 36, params [0, 1, 2] -/
def spec_ExtendUse_c : ACode := (.seq (.reg [⟨(some 6), .assign (.const (.slice none 0 0)), none⟩,
    ⟨(some 7), .assign (.const (.int .i64 0)), none⟩,
    ⟨(some 8), .assign (.const (.bool false)), none⟩] [0, 1, 2])
  (.seq (.reg [⟨(some 13), .move (.tmp 0), none⟩,
    ⟨(some 14), .move (.tmp 1), none⟩,
    ⟨(some 15), .call ⟨.value (.func 71), #[(.tmp 13), (.tmp 14)], #[34, 3]⟩, none⟩,
    ⟨(some 9), .assign (.tmp 15), none⟩] [0, 2, 9])
  (.seq (.seq (.reg [⟨(some 16), .move (.tmp 0), none⟩,
    ⟨(some 17), .call ⟨.value (.func 63), #[(.tmp 16)], #[34]⟩, none⟩,
    ⟨(some 18), .unOp .not 4 (.tmp 17), none⟩,
    ⟨(some 19), .move (.tmp 18), none⟩,
    ⟨(some 20), .move (.tmp 9), (some (some 19, false))⟩,
    ⟨(some 21), .binOp .lss 3 (.tmp 20) (.const (.int .i64 0)) 3, (some (some 19, false))⟩,
    ⟨(some 22), .pick (.tmp 19) (.const (.bool true)) (.tmp 21), none⟩,
    ⟨(some 23), .move (.tmp 22), none⟩,
    ⟨(some 24), .move (.tmp 2), (some (some 23, false))⟩,
    ⟨(some 25), .call ⟨.value (.func 79), #[(.tmp 24)], #[3]⟩, (some (some 23, false))⟩,
    ⟨(some 26), .unOp .not 4 (.tmp 25), (some (some 23, false))⟩,
    ⟨(some 27), .pick (.tmp 23) (.const (.bool true)) (.tmp 26), none⟩] [0, 2, 9, 27])
  (.cond (.tmp 27) (.seq (.reg [⟨(some 28), .buildSlice 34 0 #[], none⟩,
    ⟨(some 6), .assign (.tmp 28), none⟩,
    ⟨(some 7), .assign (.const (.int .i64 0)), none⟩,
    ⟨(some 8), .assign (.const (.bool false)), none⟩] [6, 7, 8])
  .ret)
  .skip))
  (.seq (.reg [⟨(some 29), .buildSlice 34 0 #[], none⟩,
    ⟨(some 30), .move (.tmp 0), none⟩,
    ⟨(some 31), .call ⟨.builtin .append, #[(.tmp 29), (.tmp 30)], #[34, 34]⟩, none⟩,
    ⟨(some 10), .assign (.tmp 31), none⟩] [2, 9, 10])
  (.seq (.reg [⟨(some 32), .move (.tmp 10), none⟩,
    ⟨(some 33), .move (.tmp 9), none⟩,
    ⟨(some 34), .indexAddr 34 (.tmp 32) (.tmp 33), none⟩,
    ⟨(some 35), .load 26 (.tmp 34), none⟩,
    ⟨(some 11), .alloc 26, none⟩,
    ⟨none, .store 26 (.tmp 11) (.tmp 35), none⟩] [2, 9, 10, 11])
  (.seq (.regQ [⟨(some 36), .fieldAddr 26 (.tmp 11) 3, none⟩,
    ⟨(some 37), .load 3 (.tmp 36), none⟩,
    ⟨(some 38), .move (.tmp 2), none⟩,
    ⟨(some 39), .binOp .sub 3 (.tmp 37) (.tmp 38) 3, none⟩,
    ⟨(some 40), .call ⟨.value (.func 69), #[(.const (.int .i64 0)), (.tmp 39)], #[3, 3]⟩, none⟩,
    ⟨(some 41), .move (.tmp 2), none⟩,
    ⟨(some 42), .fieldAddr 26 (.tmp 11) 4, none⟩,
    ⟨(some 43), .load 3 (.tmp 42), none⟩,
    ⟨(some 44), .binOp .sub 3 (.tmp 41) (.tmp 43) 3, none⟩,
    ⟨(some 45), .call ⟨.value (.func 69), #[(.const (.int .i64 0)), (.tmp 44)], #[3, 3]⟩, none⟩,
    ⟨(some 46), .binOp .add 3 (.tmp 40) (.tmp 45) 3, none⟩,
    ⟨(some 12), .assign (.tmp 46), none⟩] [2, 9, 10, 11, 12])
  (.seq (.reg [⟨(some 47), .fieldAddr 26 (.tmp 11) 3, none⟩,
    ⟨(some 48), .load 3 (.tmp 47), none⟩,
    ⟨(some 49), .move (.tmp 2), none⟩,
    ⟨(some 50), .call ⟨.value (.func 68), #[(.tmp 48), (.tmp 49)], #[3, 3]⟩, none⟩,
    ⟨(some 51), .fieldAddr 26 (.tmp 11) 3, none⟩,
    ⟨none, .store 3 (.tmp 51) (.tmp 50), none⟩] [2, 9, 10, 11, 12])
  (.seq (.reg [⟨(some 52), .fieldAddr 26 (.tmp 11) 4, none⟩,
    ⟨(some 53), .load 3 (.tmp 52), none⟩,
    ⟨(some 54), .move (.tmp 2), none⟩,
    ⟨(some 55), .call ⟨.value (.func 69), #[(.tmp 53), (.tmp 54)], #[3, 3]⟩, none⟩,
    ⟨(some 56), .fieldAddr 26 (.tmp 11) 4, none⟩,
    ⟨none, .store 3 (.tmp 56) (.tmp 55), none⟩] [9, 10, 11, 12])
  (.seq (.reg [⟨(some 57), .move (.tmp 10), none⟩,
    ⟨(some 58), .move (.tmp 9), none⟩,
    ⟨(some 59), .load 26 (.tmp 11), none⟩,
    ⟨(some 60), .indexAddr 34 (.tmp 57) (.tmp 58), none⟩,
    ⟨none, .store 26 (.tmp 60) (.tmp 59), none⟩] [10, 12])
  (.seq (.reg [⟨(some 61), .move (.tmp 10), none⟩,
    ⟨(some 62), .move (.tmp 12), none⟩,
    ⟨(some 6), .assign (.tmp 61), none⟩,
    ⟨(some 7), .assign (.tmp 62), none⟩,
    ⟨(some 8), .assign (.const (.bool true)), none⟩] [6, 7, 8])
  .ret))))))))))
theorem spec_ExtendUse_k : fnOk Tryd.prog (fun _ => false) 36 = some (spec_ExtendUse_c.strip, 63, [.tmp 6, .tmp 7, .tmp 8]) := by kernel_rfl
/-- loop.example/g01062/impl.ExtendUse: number 37, params [0, 1, 2] -/
def impl_ExtendUse_c : ACode := (.seq (.reg [⟨(some 6), .assign (.const (.slice none 0 0)), none⟩,
    ⟨(some 7), .assign (.const (.int .i64 0)), none⟩,
    ⟨(some 8), .assign (.const (.bool false)), none⟩] [0, 1, 2])
  (.seq (.reg [⟨(some 13), .move (.tmp 0), none⟩,
    ⟨(some 14), .move (.tmp 1), none⟩,
    ⟨(some 15), .call ⟨.value (.func 73), #[(.tmp 13), (.tmp 14)], #[34, 3]⟩, none⟩,
    ⟨(some 9), .assign (.tmp 15), none⟩] [0, 2, 9])
  (.seq (.seq (.reg [⟨(some 16), .move (.tmp 0), none⟩,
    ⟨(some 17), .call ⟨.value (.func 64), #[(.tmp 16)], #[34]⟩, none⟩,
    ⟨(some 18), .unOp .not 4 (.tmp 17), none⟩,
    ⟨(some 19), .move (.tmp 18), none⟩,
    ⟨(some 20), .move (.tmp 9), (some (some 19, false))⟩,
    ⟨(some 21), .binOp .lss 3 (.tmp 20) (.const (.int .i64 0)) 3, (some (some 19, false))⟩,
    ⟨(some 22), .pick (.tmp 19) (.const (.bool true)) (.tmp 21), none⟩,
    ⟨(some 23), .move (.tmp 22), none⟩,
    ⟨(some 24), .move (.tmp 2), (some (some 23, false))⟩,
    ⟨(some 25), .call ⟨.value (.func 80), #[(.tmp 24)], #[3]⟩, (some (some 23, false))⟩,
    ⟨(some 26), .unOp .not 4 (.tmp 25), (some (some 23, false))⟩,
    ⟨(some 27), .pick (.tmp 23) (.const (.bool true)) (.tmp 26), none⟩] [0, 2, 9, 27])
  (.cond (.tmp 27) (.seq (.reg [⟨(some 6), .assign (.const (.slice none 0 0)), none⟩,
    ⟨(some 7), .assign (.const (.int .i64 0)), none⟩,
    ⟨(some 8), .assign (.const (.bool false)), none⟩] [6, 7, 8])
  .ret)
  .skip))
  (.seq (.reg [⟨(some 28), .move (.tmp 0), none⟩,
    ⟨(some 29), .call ⟨.value (.func 77), #[(.tmp 28)], #[34]⟩, none⟩,
    ⟨(some 10), .assign (.tmp 29), none⟩] [2, 9, 10])
  (.seq (.reg [⟨(some 30), .move (.tmp 10), none⟩,
    ⟨(some 31), .move (.tmp 9), none⟩,
    ⟨(some 32), .indexAddr 34 (.tmp 30) (.tmp 31), none⟩,
    ⟨(some 11), .assign (.tmp 32), none⟩] [2, 10, 11])
  (.seq (.regQ [⟨(some 33), .move (.tmp 11), none⟩,
    ⟨(some 34), .nilCheck (.tmp 33), none⟩,
    ⟨(some 35), .fieldAddr 26 (.tmp 34) 4, none⟩,
    ⟨(some 36), .load 3 (.tmp 35), none⟩,
    ⟨(some 37), .move (.tmp 11), none⟩,
    ⟨(some 38), .nilCheck (.tmp 37), none⟩,
    ⟨(some 39), .fieldAddr 26 (.tmp 38) 3, none⟩,
    ⟨(some 40), .load 3 (.tmp 39), none⟩,
    ⟨(some 41), .binOp .sub 3 (.tmp 36) (.tmp 40) 3, none⟩,
    ⟨(some 12), .assign (.tmp 41), none⟩] [2, 10, 11, 12])
  (.seq (.regF []
    [42, 44, 45, 46, 47, 48, 49, 50, 51, 52, 53, 56, 57, 43, 54, 55, 58, 59] []
    [⟨(some 42), .move (.tmp 11), none⟩,
    ⟨(some 44), .move (.tmp 11), none⟩,
    ⟨(some 45), .nilCheck (.tmp 44), none⟩,
    ⟨(some 46), .fieldAddr 26 (.tmp 45) 3, none⟩,
    ⟨(some 47), .load 3 (.tmp 46), none⟩,
    ⟨(some 48), .move (.tmp 2), none⟩,
    ⟨(some 49), .call ⟨.builtin .min, #[(.tmp 47), (.tmp 48)], #[3, 3]⟩, none⟩,
    ⟨(some 50), .move (.tmp 11), none⟩,
    ⟨(some 51), .nilCheck (.tmp 50), none⟩,
    ⟨(some 52), .fieldAddr 26 (.tmp 51) 4, none⟩,
    ⟨(some 53), .load 3 (.tmp 52), none⟩,
    ⟨(some 56), .nilCheck (.tmp 42), none⟩,
    ⟨(some 57), .fieldAddr 26 (.tmp 56) 3, none⟩,
    ⟨none, .store 3 (.tmp 57) (.tmp 49), none⟩,
    ⟨(some 43), .move (.tmp 11), none⟩,
    ⟨(some 54), .move (.tmp 2), none⟩,
    ⟨(some 55), .call ⟨.builtin .max, #[(.tmp 53), (.tmp 54)], #[3, 3]⟩, none⟩,
    ⟨(some 58), .nilCheck (.tmp 43), none⟩,
    ⟨(some 59), .fieldAddr 26 (.tmp 58) 4, none⟩,
    ⟨none, .store 3 (.tmp 59) (.tmp 55), none⟩] [10, 11, 12])
  (.seq (.regQ [⟨(some 60), .move (.tmp 10), none⟩,
    ⟨(some 61), .move (.tmp 11), none⟩,
    ⟨(some 62), .nilCheck (.tmp 61), none⟩,
    ⟨(some 63), .fieldAddr 26 (.tmp 62) 4, none⟩,
    ⟨(some 64), .load 3 (.tmp 63), none⟩,
    ⟨(some 65), .move (.tmp 11), none⟩,
    ⟨(some 66), .nilCheck (.tmp 65), none⟩,
    ⟨(some 67), .fieldAddr 26 (.tmp 66) 3, none⟩,
    ⟨(some 68), .load 3 (.tmp 67), none⟩,
    ⟨(some 69), .binOp .sub 3 (.tmp 64) (.tmp 68) 3, none⟩,
    ⟨(some 70), .move (.tmp 12), none⟩,
    ⟨(some 71), .binOp .sub 3 (.tmp 69) (.tmp 70) 3, none⟩,
    ⟨(some 6), .assign (.tmp 60), none⟩,
    ⟨(some 7), .assign (.tmp 71), none⟩,
    ⟨(some 8), .assign (.const (.bool true)), none⟩] [6, 7, 8])
  .ret))))))))
theorem impl_ExtendUse_k : fnOk Tryd.prog (fun _ => false) 37 = some (impl_ExtendUse_c.strip, 72, [.tmp 6, .tmp 7, .tmp 8]) := by kernel_rfl
/-- loop.example/g01062/spec.PostmarkText: number 38, params [0] -/
def spec_PostmarkText_c : ACode := (.seq (.reg [⟨(some 1), .box 26 (.tmp 0), none⟩,
    ⟨(some 2), .assign (.const (.string ⟨#[]⟩)), none⟩,
    ⟨(some 3), .assign (.const (.bool false)), none⟩] [1])
  (.seq (.seq (.reg [⟨(some 4), .load 26 (.tmp 1), none⟩,
    ⟨(some 5), .call ⟨.value (.func 59), #[(.tmp 4)], #[26]⟩, none⟩,
    ⟨(some 6), .unOp .not 4 (.tmp 5), none⟩] [1, 6])
  (.cond (.tmp 6) (.seq (.reg [⟨(some 2), .assign (.const (.string ⟨#[]⟩)), none⟩,
    ⟨(some 3), .assign (.const (.bool false)), none⟩] [2, 3])
  .ret)
  .skip))
  (.seq (.regQ [⟨(some 7), .fieldAddr 26 (.tmp 1) 0, none⟩,
    ⟨(some 8), .load 3 (.tmp 7), none⟩,
    ⟨(some 9), .call ⟨.value (.func 81), #[(.tmp 8)], #[3]⟩, none⟩,
    ⟨(some 10), .binOp .add 9 (.const (.string ⟨#[112]⟩)) (.tmp 9) 9, none⟩,
    ⟨(some 11), .binOp .add 9 (.tmp 10) (.const (.string ⟨#[32]⟩)) 9, none⟩,
    ⟨(some 12), .load 26 (.tmp 1), none⟩,
    ⟨(some 13), .call ⟨.value (.func 61), #[(.tmp 12)], #[26]⟩, none⟩,
    ⟨(some 14), .binOp .add 9 (.tmp 11) (.tmp 13) 9, none⟩,
    ⟨(some 15), .binOp .add 9 (.tmp 14) (.const (.string ⟨#[32, 107]⟩)) 9, none⟩,
    ⟨(some 16), .fieldAddr 26 (.tmp 1) 2, none⟩,
    ⟨(some 17), .load 3 (.tmp 16), none⟩,
    ⟨(some 18), .call ⟨.value (.func 81), #[(.tmp 17)], #[3]⟩, none⟩,
    ⟨(some 19), .binOp .add 9 (.tmp 15) (.tmp 18) 9, none⟩,
    ⟨(some 20), .binOp .add 9 (.tmp 19) (.const (.string ⟨#[32]⟩)) 9, none⟩,
    ⟨(some 21), .fieldAddr 26 (.tmp 1) 3, none⟩,
    ⟨(some 22), .load 3 (.tmp 21), none⟩,
    ⟨(some 23), .call ⟨.value (.func 81), #[(.tmp 22)], #[3]⟩, none⟩,
    ⟨(some 24), .binOp .add 9 (.tmp 20) (.tmp 23) 9, none⟩,
    ⟨(some 25), .binOp .add 9 (.tmp 24) (.const (.string ⟨#[45]⟩)) 9, none⟩,
    ⟨(some 26), .fieldAddr 26 (.tmp 1) 4, none⟩,
    ⟨(some 27), .load 3 (.tmp 26), none⟩,
    ⟨(some 28), .call ⟨.value (.func 81), #[(.tmp 27)], #[3]⟩, none⟩,
    ⟨(some 29), .binOp .add 9 (.tmp 25) (.tmp 28) 9, none⟩,
    ⟨(some 2), .assign (.tmp 29), none⟩,
    ⟨(some 3), .assign (.const (.bool true)), none⟩] [2, 3])
  .ret)))
theorem spec_PostmarkText_k : fnOk Tryd.prog (fun _ => false) 38 = some (spec_PostmarkText_c.strip, 30, [.tmp 2, .tmp 3]) := by kernel_rfl
/-- loop.example/g01062/impl.PostmarkText: number 39, params [0] -/
def impl_PostmarkText_c : ACode := (.seq (.reg [⟨(some 1), .box 26 (.tmp 0), none⟩,
    ⟨(some 2), .assign (.const (.string ⟨#[]⟩)), none⟩,
    ⟨(some 3), .assign (.const (.bool false)), none⟩] [1])
  (.seq (.seq (.reg [⟨(some 4), .load 26 (.tmp 1), none⟩,
    ⟨(some 5), .call ⟨.value (.func 60), #[(.tmp 4)], #[26]⟩, none⟩,
    ⟨(some 6), .unOp .not 4 (.tmp 5), none⟩] [1, 6])
  (.cond (.tmp 6) (.seq (.reg [⟨(some 2), .assign (.const (.string ⟨#[]⟩)), none⟩,
    ⟨(some 3), .assign (.const (.bool false)), none⟩] [2, 3])
  .ret)
  .skip))
  (.seq (.regQ [⟨(some 7), .fieldAddr 26 (.tmp 1) 0, none⟩,
    ⟨(some 8), .load 3 (.tmp 7), none⟩,
    ⟨(some 9), .call ⟨.value (.func 82), #[(.tmp 8)], #[3]⟩, none⟩,
    ⟨(some 10), .binOp .add 9 (.const (.string ⟨#[112]⟩)) (.tmp 9) 9, none⟩,
    ⟨(some 11), .binOp .add 9 (.tmp 10) (.const (.string ⟨#[32]⟩)) 9, none⟩,
    ⟨(some 12), .load 26 (.tmp 1), none⟩,
    ⟨(some 13), .call ⟨.value (.func 62), #[(.tmp 12)], #[26]⟩, none⟩,
    ⟨(some 14), .binOp .add 9 (.tmp 11) (.tmp 13) 9, none⟩,
    ⟨(some 15), .binOp .add 9 (.tmp 14) (.const (.string ⟨#[32, 107]⟩)) 9, none⟩,
    ⟨(some 16), .fieldAddr 26 (.tmp 1) 2, none⟩,
    ⟨(some 17), .load 3 (.tmp 16), none⟩,
    ⟨(some 18), .call ⟨.value (.func 82), #[(.tmp 17)], #[3]⟩, none⟩,
    ⟨(some 19), .binOp .add 9 (.tmp 15) (.tmp 18) 9, none⟩,
    ⟨(some 20), .binOp .add 9 (.tmp 19) (.const (.string ⟨#[32]⟩)) 9, none⟩,
    ⟨(some 21), .fieldAddr 26 (.tmp 1) 3, none⟩,
    ⟨(some 22), .load 3 (.tmp 21), none⟩,
    ⟨(some 23), .call ⟨.value (.func 82), #[(.tmp 22)], #[3]⟩, none⟩,
    ⟨(some 24), .binOp .add 9 (.tmp 20) (.tmp 23) 9, none⟩,
    ⟨(some 25), .binOp .add 9 (.tmp 24) (.const (.string ⟨#[45]⟩)) 9, none⟩,
    ⟨(some 26), .fieldAddr 26 (.tmp 1) 4, none⟩,
    ⟨(some 27), .load 3 (.tmp 26), none⟩,
    ⟨(some 28), .call ⟨.value (.func 82), #[(.tmp 27)], #[3]⟩, none⟩,
    ⟨(some 29), .binOp .add 9 (.tmp 25) (.tmp 28) 9, none⟩,
    ⟨(some 2), .assign (.tmp 29), none⟩,
    ⟨(some 3), .assign (.const (.bool true)), none⟩] [2, 3])
  .ret)))
theorem impl_PostmarkText_k : fnOk Tryd.prog (fun _ => false) 39 = some (impl_PostmarkText_c.strip, 30, [.tmp 2, .tmp 3]) := by kernel_rfl
/-- head: [0, 1, 2, 8, 9] -/
def spec_ReadMarks_l0 : ACode := (.seq (.seq (.reg [⟨(some 25), .move (.tmp 9), none⟩,
    ⟨(some 26), .move (.tmp 0), none⟩,
    ⟨(some 27), .call ⟨.builtin .len, #[(.tmp 26)], #[34]⟩, none⟩,
    ⟨(some 28), .binOp .lss 3 (.tmp 25) (.tmp 27) 3, none⟩] [0, 1, 2, 8, 9, 28])
  (.cond (.tmp 28) .skip
  (.exit 0)))
  (.seq (.block 1 (.seq (.reg [⟨(some 31), .move (.tmp 0), none⟩,
    ⟨(some 32), .move (.tmp 9), none⟩,
    ⟨(some 33), .indexAddr 34 (.tmp 31) (.tmp 32), none⟩,
    ⟨(some 34), .load 26 (.tmp 33), none⟩,
    ⟨(some 35), .move (.tmp 2), none⟩,
    ⟨(some 36), .call ⟨.value (.func 70), #[(.tmp 34), (.tmp 35)], #[26, 3]⟩, none⟩,
    ⟨(some 37), .move (.tmp 36), none⟩,
    ⟨(some 38), .move (.tmp 1), (some (some 37, true))⟩,
    ⟨(some 39), .move (.tmp 0), (some (some 37, true))⟩,
    ⟨(some 40), .move (.tmp 9), (some (some 37, true))⟩,
    ⟨(some 41), .indexAddr 34 (.tmp 39) (.tmp 40), (some (some 37, true))⟩,
    ⟨(some 42), .load 26 (.tmp 41), (some (some 37, true))⟩,
    ⟨(some 43), .call ⟨.value (.func 61), #[(.tmp 42)], #[26]⟩, (some (some 37, true))⟩,
    ⟨(some 44), .call ⟨.value (.func 72), #[(.tmp 38), (.tmp 43)], #[9, 9]⟩, (some (some 37, true))⟩,
    ⟨(some 45), .pick (.tmp 37) (.tmp 44) (.const (.bool false)), none⟩] [0, 1, 2, 8, 9, 45])
  (.cond (.tmp 45) (.reg [⟨(some 46), .move (.tmp 8), none⟩,
    ⟨(some 47), .move (.tmp 0), none⟩,
    ⟨(some 48), .move (.tmp 9), none⟩,
    ⟨(some 49), .indexAddr 34 (.tmp 47) (.tmp 48), none⟩,
    ⟨(some 50), .fieldAddr 26 (.tmp 49) 0, none⟩,
    ⟨(some 51), .load 3 (.tmp 50), none⟩,
    ⟨(some 52), .buildSlice 51 1 #[(0, (.tmp 51))], none⟩,
    ⟨(some 53), .call ⟨.builtin .append, #[(.tmp 46), (.tmp 52)], #[51, 51]⟩, none⟩,
    ⟨(some 8), .assign (.tmp 53), none⟩] [0, 1, 2, 8, 9])
  .skip)))
  (.reg [⟨(some 29), .move (.tmp 9), none⟩,
    ⟨(some 30), .binOp .add 3 (.tmp 29) (.const (.int .i64 1)) 3, none⟩,
    ⟨(some 9), .assign (.tmp 30), none⟩] [0, 1, 2, 8, 9])))
/-- loop.example/g01062/spec.ReadMarks: number 40, params [0, 1, 2] -/
def spec_ReadMarks_c : ACode := (.seq (.reg [⟨(some 6), .assign (.const (.slice none 0 0)), none⟩,
    ⟨(some 7), .assign (.const (.bool false)), none⟩] [0, 1, 2])
  (.seq (.reg [⟨(some 10), .buildSlice 51 0 #[], none⟩,
    ⟨(some 8), .assign (.tmp 10), none⟩] [0, 1, 2, 8])
  (.seq (.seq (.reg [⟨(some 11), .move (.tmp 0), none⟩,
    ⟨(some 12), .call ⟨.value (.func 63), #[(.tmp 11)], #[34]⟩, none⟩,
    ⟨(some 13), .unOp .not 4 (.tmp 12), none⟩,
    ⟨(some 14), .move (.tmp 13), none⟩,
    ⟨(some 15), .move (.tmp 1), (some (some 14, false))⟩,
    ⟨(some 16), .call ⟨.value (.func 83), #[(.tmp 15)], #[9]⟩, (some (some 14, false))⟩,
    ⟨(some 17), .unOp .not 4 (.tmp 16), (some (some 14, false))⟩,
    ⟨(some 18), .pick (.tmp 14) (.const (.bool true)) (.tmp 17), none⟩,
    ⟨(some 19), .move (.tmp 18), none⟩,
    ⟨(some 20), .move (.tmp 2), (some (some 19, false))⟩,
    ⟨(some 21), .call ⟨.value (.func 79), #[(.tmp 20)], #[3]⟩, (some (some 19, false))⟩,
    ⟨(some 22), .unOp .not 4 (.tmp 21), (some (some 19, false))⟩,
    ⟨(some 23), .pick (.tmp 19) (.const (.bool true)) (.tmp 22), none⟩] [0, 1, 2, 8, 23])
  (.cond (.tmp 23) (.seq (.reg [⟨(some 24), .move (.tmp 8), none⟩,
    ⟨(some 6), .assign (.tmp 24), none⟩,
    ⟨(some 7), .assign (.const (.bool false)), none⟩] [6, 7])
  .ret)
  .skip))
  (.seq (.seq (.reg [⟨(some 9), .assign (.const (.int .i64 0)), none⟩] [0, 1, 2, 8, 9])
  (.block 0 (.loop spec_ReadMarks_l0)))
  (.seq (.reg [⟨(some 54), .move (.tmp 8), none⟩,
    ⟨(some 6), .assign (.tmp 54), none⟩,
    ⟨(some 7), .assign (.const (.bool true)), none⟩] [6, 7])
  .ret)))))
theorem spec_ReadMarks_k : fnOk Tryd.prog (fun _ => false) 40 = some (spec_ReadMarks_c.strip, 55, [.tmp 6, .tmp 7]) := by kernel_rfl
/-- head: [1, 2, 8, 24, 25, 26] -/
def impl_ReadMarks_l0 : ACode := (.seq (.reg [⟨(some 27), .binOp .lss 3 (.tmp 26) (.tmp 25) 3, none⟩] [1, 2, 8, 24, 25, 26, 27])
  (.seq (.cond (.tmp 27) .skip
  (.exit 0))
  (.seq (.block 1 (.seq (.reg [⟨(some 28), .indexAddr 34 (.tmp 24) (.tmp 26), none⟩,
    ⟨(some 29), .load 26 (.tmp 28), none⟩,
    ⟨(some 10), .alloc 26, none⟩,
    ⟨none, .store 26 (.tmp 10) (.tmp 29), none⟩] [1, 2, 8, 10, 24, 25, 26])
  (.seq (.reg [⟨(some 30), .move (.tmp 2), none⟩,
    ⟨(some 31), .fieldAddr 26 (.tmp 10) 3, none⟩,
    ⟨(some 32), .load 3 (.tmp 31), none⟩,
    ⟨(some 33), .fieldAddr 26 (.tmp 10) 4, none⟩,
    ⟨(some 34), .load 3 (.tmp 33), none⟩,
    ⟨(some 35), .call ⟨.value (.func 76), #[(.tmp 30), (.tmp 32), (.tmp 34)], #[3, 3, 3]⟩, none⟩,
    ⟨(some 36), .move (.tmp 35), none⟩,
    ⟨(some 37), .load 26 (.tmp 10), (some (some 36, true))⟩,
    ⟨(some 38), .call ⟨.value (.func 62), #[(.tmp 37)], #[26]⟩, (some (some 36, true))⟩,
    ⟨(some 39), .move (.tmp 1), (some (some 36, true))⟩,
    ⟨(some 40), .call ⟨.value (.func 74), #[(.tmp 38), (.tmp 39)], #[9, 9]⟩, (some (some 36, true))⟩,
    ⟨(some 41), .pick (.tmp 36) (.tmp 40) (.const (.bool false)), none⟩] [1, 2, 8, 10, 24, 25, 26, 41])
  (.cond (.tmp 41) (.reg [⟨(some 42), .move (.tmp 8), none⟩,
    ⟨(some 43), .fieldAddr 26 (.tmp 10) 0, none⟩,
    ⟨(some 44), .load 3 (.tmp 43), none⟩,
    ⟨(some 45), .buildSlice 51 1 #[(0, (.tmp 44))], none⟩,
    ⟨(some 46), .call ⟨.builtin .append, #[(.tmp 42), (.tmp 45)], #[51, 51]⟩, none⟩,
    ⟨(some 8), .assign (.tmp 46), none⟩] [1, 2, 8, 24, 25, 26])
  .skip))))
  (.reg [⟨(some 47), .binOp .add 3 (.tmp 26) (.const (.int .i64 1)) 3, none⟩,
    ⟨(some 26), .move (.tmp 47), none⟩] [1, 2, 8, 24, 25, 26]))))
/-- loop.example/g01062/impl.ReadMarks: number 41, params [0, 1, 2] -/
def impl_ReadMarks_c : ACode := (.seq (.reg [⟨(some 6), .assign (.const (.slice none 0 0)), none⟩,
    ⟨(some 7), .assign (.const (.bool false)), none⟩] [0, 1, 2])
  (.seq (.seq (.reg [⟨(some 11), .move (.tmp 0), none⟩,
    ⟨(some 12), .call ⟨.value (.func 64), #[(.tmp 11)], #[34]⟩, none⟩,
    ⟨(some 13), .unOp .not 4 (.tmp 12), none⟩,
    ⟨(some 14), .move (.tmp 13), none⟩,
    ⟨(some 15), .move (.tmp 1), (some (some 14, false))⟩,
    ⟨(some 16), .call ⟨.value (.func 84), #[(.tmp 15)], #[9]⟩, (some (some 14, false))⟩,
    ⟨(some 17), .unOp .not 4 (.tmp 16), (some (some 14, false))⟩,
    ⟨(some 18), .pick (.tmp 14) (.const (.bool true)) (.tmp 17), none⟩,
    ⟨(some 19), .move (.tmp 18), none⟩,
    ⟨(some 20), .move (.tmp 2), (some (some 19, false))⟩,
    ⟨(some 21), .call ⟨.value (.func 80), #[(.tmp 20)], #[3]⟩, (some (some 19, false))⟩,
    ⟨(some 22), .unOp .not 4 (.tmp 21), (some (some 19, false))⟩,
    ⟨(some 23), .pick (.tmp 19) (.const (.bool true)) (.tmp 22), none⟩] [0, 1, 2, 23])
  (.cond (.tmp 23) (.seq (.reg [⟨(some 6), .assign (.const (.slice none 0 0)), none⟩,
    ⟨(some 7), .assign (.const (.bool false)), none⟩] [6, 7])
  .ret)
  .skip))
  (.seq (.reg [⟨(some 8), .assign (.const (.slice none 0 0)), none⟩] [0, 1, 2, 8])
  (.seq (.seq (.reg [⟨(some 24), .move (.tmp 0), none⟩,
    ⟨(some 25), .call ⟨.builtin .len, #[(.tmp 24)], #[34]⟩, none⟩,
    ⟨(some 26), .move (.const (.int .i64 0)), none⟩] [1, 2, 8, 24, 25, 26])
  (.block 0 (.loop impl_ReadMarks_l0)))
  (.seq (.reg [⟨(some 48), .move (.tmp 8), none⟩,
    ⟨(some 6), .assign (.tmp 48), none⟩,
    ⟨(some 7), .assign (.const (.bool true)), none⟩] [6, 7])
  .ret)))))
theorem impl_ReadMarks_k : fnOk Tryd.prog (fun _ => false) 41 = some (impl_ReadMarks_c.strip, 49, [.tmp 6, .tmp 7]) := by kernel_rfl
/-- head: [0, 1, 5] -/
def laws_eqIntS_l0 : ACode := (.seq (.seq (.reg [⟨(some 11), .move (.tmp 5), none⟩,
    ⟨(some 12), .move (.tmp 0), none⟩,
    ⟨(some 13), .call ⟨.builtin .len, #[(.tmp 12)], #[51]⟩, none⟩,
    ⟨(some 14), .binOp .lss 3 (.tmp 11) (.tmp 13) 3, none⟩] [0, 1, 5, 14])
  (.cond (.tmp 14) .skip
  (.exit 0)))
  (.seq (.block 1 (.seq (.regQ [⟨(some 17), .move (.tmp 0), none⟩,
    ⟨(some 18), .move (.tmp 5), none⟩,
    ⟨(some 19), .indexAddr 51 (.tmp 17) (.tmp 18), none⟩,
    ⟨(some 20), .load 3 (.tmp 19), none⟩,
    ⟨(some 21), .move (.tmp 1), none⟩,
    ⟨(some 22), .move (.tmp 5), none⟩,
    ⟨(some 23), .indexAddr 51 (.tmp 21) (.tmp 22), none⟩,
    ⟨(some 24), .load 3 (.tmp 23), none⟩,
    ⟨(some 25), .binOp .neq 3 (.tmp 20) (.tmp 24) 3, none⟩] [0, 1, 5, 25])
  (.cond (.tmp 25) (.seq (.reg [⟨(some 4), .assign (.const (.bool false)), none⟩] [4])
  .ret)
  .skip)))
  (.reg [⟨(some 15), .move (.tmp 5), none⟩,
    ⟨(some 16), .binOp .add 3 (.tmp 15) (.const (.int .i64 1)) 3, none⟩,
    ⟨(some 5), .assign (.tmp 16), none⟩] [0, 1, 5])))
/-- loop.example/g01062/laws.eqIntS: number 42, params [0, 1] -/
def laws_eqIntS_c : ACode := (.seq (.reg [⟨(some 4), .assign (.const (.bool false)), none⟩] [0, 1])
  (.seq (.seq (.reg [⟨(some 6), .move (.tmp 0), none⟩,
    ⟨(some 7), .call ⟨.builtin .len, #[(.tmp 6)], #[51]⟩, none⟩,
    ⟨(some 8), .move (.tmp 1), none⟩,
    ⟨(some 9), .call ⟨.builtin .len, #[(.tmp 8)], #[51]⟩, none⟩,
    ⟨(some 10), .binOp .neq 3 (.tmp 7) (.tmp 9) 3, none⟩] [0, 1, 10])
  (.cond (.tmp 10) (.seq (.reg [⟨(some 4), .assign (.const (.bool false)), none⟩] [4])
  .ret)
  .skip))
  (.seq (.seq (.reg [⟨(some 5), .assign (.const (.int .i64 0)), none⟩] [0, 1, 5])
  (.block 0 (.loop laws_eqIntS_l0)))
  (.seq (.reg [⟨(some 4), .assign (.const (.bool true)), none⟩] [4])
  .ret))))
theorem laws_eqIntS_k : fnOk Tryd.prog (fun _ => false) 42 = some (laws_eqIntS_c.strip, 26, [.tmp 4]) := by kernel_rfl
/-- head: [0, 1, 5] -/
def laws_markIntS_l0 : ACode := (.seq (.seq (.reg [⟨(some 6), .move (.tmp 5), none⟩,
    ⟨(some 7), .move (.tmp 0), none⟩,
    ⟨(some 8), .call ⟨.builtin .len, #[(.tmp 7)], #[51]⟩, none⟩,
    ⟨(some 9), .binOp .lss 3 (.tmp 6) (.tmp 8) 3, none⟩] [0, 1, 5, 9])
  (.cond (.tmp 9) .skip
  (.exit 0)))
  (.seq (.block 1 (.seq (.reg [⟨(some 12), .move (.tmp 0), none⟩,
    ⟨(some 13), .move (.tmp 5), none⟩,
    ⟨(some 14), .move (.tmp 1), none⟩,
    ⟨(some 15), .indexAddr 51 (.tmp 12) (.tmp 13), none⟩,
    ⟨none, .store 3 (.tmp 15) (.tmp 14), none⟩] [0, 1, 5])
  (.reg [⟨(some 16), .move (.tmp 1), none⟩,
    ⟨(some 17), .binOp .add 3 (.tmp 16) (.const (.int .i64 1)) 3, none⟩,
    ⟨(some 1), .assign (.tmp 17), none⟩] [0, 1, 5])))
  (.reg [⟨(some 10), .move (.tmp 5), none⟩,
    ⟨(some 11), .binOp .add 3 (.tmp 10) (.const (.int .i64 1)) 3, none⟩,
    ⟨(some 5), .assign (.tmp 11), none⟩] [0, 1, 5])))
/-- loop.example/g01062/laws.markIntS: number 43, params [0, 1] -/
def laws_markIntS_c : ACode := (.seq (.reg [⟨(some 4), .assign (.const (.int .i64 0)), none⟩] [0, 1])
  (.seq (.seq (.reg [⟨(some 5), .assign (.const (.int .i64 0)), none⟩] [0, 1, 5])
  (.block 0 (.loop laws_markIntS_l0)))
  (.seq (.reg [⟨(some 18), .move (.tmp 1), none⟩,
    ⟨(some 4), .assign (.tmp 18), none⟩] [4])
  .ret)))
theorem laws_markIntS_k : fnOk Tryd.prog (fun _ => false) 43 = some (laws_markIntS_c.strip, 19, [.tmp 4]) := by kernel_rfl
/-- head: [0, 1, 5] -/
def laws_heldIntS_l0 : ACode := (.seq (.seq (.reg [⟨(some 6), .move (.tmp 5), none⟩,
    ⟨(some 7), .move (.tmp 0), none⟩,
    ⟨(some 8), .call ⟨.builtin .len, #[(.tmp 7)], #[51]⟩, none⟩,
    ⟨(some 9), .binOp .lss 3 (.tmp 6) (.tmp 8) 3, none⟩] [0, 1, 5, 9])
  (.cond (.tmp 9) .skip
  (.exit 0)))
  (.seq (.block 1 (.seq (.seq (.reg [⟨(some 12), .move (.tmp 0), none⟩,
    ⟨(some 13), .move (.tmp 5), none⟩,
    ⟨(some 14), .indexAddr 51 (.tmp 12) (.tmp 13), none⟩,
    ⟨(some 15), .load 3 (.tmp 14), none⟩,
    ⟨(some 16), .move (.tmp 1), none⟩,
    ⟨(some 17), .binOp .neq 3 (.tmp 15) (.tmp 16) 3, none⟩] [0, 1, 5, 17])
  (.cond (.tmp 17) (.seq (.reg [⟨(some 4), .assign (.const (.int .i64 (-1))), none⟩] [4])
  .ret)
  .skip))
  (.reg [⟨(some 18), .move (.tmp 1), none⟩,
    ⟨(some 19), .binOp .add 3 (.tmp 18) (.const (.int .i64 1)) 3, none⟩,
    ⟨(some 1), .assign (.tmp 19), none⟩] [0, 1, 5])))
  (.reg [⟨(some 10), .move (.tmp 5), none⟩,
    ⟨(some 11), .binOp .add 3 (.tmp 10) (.const (.int .i64 1)) 3, none⟩,
    ⟨(some 5), .assign (.tmp 11), none⟩] [0, 1, 5])))
/-- loop.example/g01062/laws.heldIntS: number 44, params [0, 1] -/
def laws_heldIntS_c : ACode := (.seq (.reg [⟨(some 4), .assign (.const (.int .i64 0)), none⟩] [0, 1])
  (.seq (.seq (.reg [⟨(some 5), .assign (.const (.int .i64 0)), none⟩] [0, 1, 5])
  (.block 0 (.loop laws_heldIntS_l0)))
  (.seq (.reg [⟨(some 20), .move (.tmp 1), none⟩,
    ⟨(some 4), .assign (.tmp 20), none⟩] [4])
  .ret)))
theorem laws_heldIntS_k : fnOk Tryd.prog (fun _ => false) 44 = some (laws_heldIntS_c.strip, 21, [.tmp 4]) := by kernel_rfl
/-- head: [0, 1, 6, 7, 8, 9, 10, 11] -/
def spec_TownsOn_l0 : ACode := (.seq (.seq (.reg [⟨(some 42), .move (.tmp 11), none⟩,
    ⟨(some 43), .move (.tmp 6), none⟩,
    ⟨(some 44), .call ⟨.builtin .len, #[(.tmp 43)], #[57]⟩, none⟩,
    ⟨(some 45), .binOp .lss 3 (.tmp 42) (.tmp 44) 3, none⟩] [0, 1, 6, 7, 8, 9, 10, 11, 45])
  (.cond (.tmp 45) .skip
  (.exit 2)))
  (.seq (.block 3 (.reg [⟨(some 48), .move (.tmp 10), none⟩,
    ⟨(some 49), .move (.tmp 48), none⟩,
    ⟨(some 50), .move (.tmp 6), (some (some 49, false))⟩,
    ⟨(some 51), .move (.tmp 11), (some (some 49, false))⟩,
    ⟨(some 52), .indexAddr 57 (.tmp 50) (.tmp 51), (some (some 49, false))⟩,
    ⟨(some 53), .load 9 (.tmp 52), (some (some 49, false))⟩,
    ⟨(some 54), .move (.tmp 8), (some (some 49, false))⟩,
    ⟨(some 55), .binOp .eql 9 (.tmp 53) (.tmp 54) 9, (some (some 49, false))⟩,
    ⟨(some 56), .pick (.tmp 49) (.const (.bool true)) (.tmp 55), none⟩,
    ⟨(some 10), .assign (.tmp 56), none⟩] [0, 1, 6, 7, 8, 9, 10, 11]))
  (.reg [⟨(some 46), .move (.tmp 11), none⟩,
    ⟨(some 47), .binOp .add 3 (.tmp 46) (.const (.int .i64 1)) 3, none⟩,
    ⟨(some 11), .assign (.tmp 47), none⟩] [0, 1, 6, 7, 8, 9, 10, 11])))
/-- head: [0, 1, 6, 7, 8, 9, 10] -/
def spec_TownsOn_l1 : ACode := (.seq (.seq (.reg [⟨(some 57), .move (.tmp 9), none⟩,
    ⟨(some 58), .binOp .gtr 3 (.tmp 57) (.const (.int .i64 0)) 3, none⟩,
    ⟨(some 59), .move (.tmp 58), none⟩,
    ⟨(some 60), .move (.tmp 8), (some (some 59, true))⟩,
    ⟨(some 61), .move (.tmp 6), (some (some 59, true))⟩,
    ⟨(some 62), .move (.tmp 9), (some (some 59, true))⟩,
    ⟨(some 63), .binOp .sub 3 (.tmp 62) (.const (.int .i64 1)) 3, (some (some 59, true))⟩,
    ⟨(some 64), .indexAddr 57 (.tmp 61) (.tmp 63), (some (some 59, true))⟩,
    ⟨(some 65), .load 9 (.tmp 64), (some (some 59, true))⟩,
    ⟨(some 66), .binOp .lss 9 (.tmp 60) (.tmp 65) 9, (some (some 59, true))⟩,
    ⟨(some 67), .pick (.tmp 59) (.tmp 66) (.const (.bool false)), none⟩] [0, 1, 6, 7, 8, 9, 10, 67])
  (.cond (.tmp 67) .skip
  (.exit 4)))
  (.block 5 (.reg [⟨(some 68), .move (.tmp 9), none⟩,
    ⟨(some 69), .binOp .sub 3 (.tmp 68) (.const (.int .i64 1)) 3, none⟩,
    ⟨(some 9), .assign (.tmp 69), none⟩] [0, 1, 6, 7, 8, 9, 10])))
/-- head: [0, 1, 6, 7] -/
def spec_TownsOn_l2 : ACode := (.seq (.seq (.reg [⟨(some 22), .move (.tmp 7), none⟩,
    ⟨(some 23), .move (.tmp 0), none⟩,
    ⟨(some 24), .call ⟨.builtin .len, #[(.tmp 23)], #[34]⟩, none⟩,
    ⟨(some 25), .binOp .lss 3 (.tmp 22) (.tmp 24) 3, none⟩] [0, 1, 6, 7, 25])
  (.cond (.tmp 25) .skip
  (.exit 0)))
  (.seq (.block 1 (.seq (.reg [⟨(some 28), .move (.tmp 0), none⟩,
    ⟨(some 29), .move (.tmp 7), none⟩,
    ⟨(some 30), .indexAddr 34 (.tmp 28) (.tmp 29), none⟩,
    ⟨(some 31), .fieldAddr 26 (.tmp 30) 1, none⟩,
    ⟨(some 32), .load 9 (.tmp 31), none⟩,
    ⟨(some 8), .assign (.tmp 32), none⟩] [0, 1, 6, 7, 8])
  (.seq (.reg [⟨(some 33), .move (.tmp 6), none⟩,
    ⟨(some 34), .call ⟨.builtin .len, #[(.tmp 33)], #[57]⟩, none⟩,
    ⟨(some 9), .assign (.tmp 34), none⟩] [0, 1, 6, 7, 8, 9])
  (.seq (.reg [⟨(some 35), .move (.tmp 0), none⟩,
    ⟨(some 36), .move (.tmp 7), none⟩,
    ⟨(some 37), .indexAddr 34 (.tmp 35) (.tmp 36), none⟩,
    ⟨(some 38), .load 26 (.tmp 37), none⟩,
    ⟨(some 39), .move (.tmp 1), none⟩,
    ⟨(some 40), .call ⟨.value (.func 70), #[(.tmp 38), (.tmp 39)], #[26, 3]⟩, none⟩,
    ⟨(some 41), .unOp .not 4 (.tmp 40), none⟩,
    ⟨(some 10), .assign (.tmp 41), none⟩] [0, 1, 6, 7, 8, 9, 10])
  (.seq (.seq (.reg [⟨(some 11), .assign (.const (.int .i64 0)), none⟩] [0, 1, 6, 7, 8, 9, 10, 11])
  (.block 2 (.loop spec_TownsOn_l0)))
  (.seq (.block 4 (.loop spec_TownsOn_l1))
  (.seq (.reg [⟨(some 70), .move (.tmp 10), none⟩,
    ⟨(some 71), .unOp .not 4 (.tmp 70), none⟩] [0, 1, 6, 7, 8, 9, 71])
  (.cond (.tmp 71) (.regF []
    [73, 74, 75, 72, 77, 78, 80, 81, 82] []
    [⟨(some 73), .move (.tmp 6), none⟩,
    ⟨(some 74), .move (.tmp 9), none⟩,
    ⟨(some 75), .slice 57 (.tmp 73) none (some (.tmp 74)) none, none⟩,
    ⟨(some 72), .buildSlice 57 0 #[], none⟩,
    ⟨(some 76), .call ⟨.builtin .append, #[(.tmp 72), (.tmp 75)], #[57, 57]⟩, none⟩,
    ⟨(some 77), .move (.tmp 8), none⟩,
    ⟨(some 78), .buildSlice 57 1 #[(0, (.tmp 77))], none⟩,
    ⟨(some 79), .call ⟨.builtin .append, #[(.tmp 76), (.tmp 78)], #[57, 57]⟩, none⟩,
    ⟨(some 80), .move (.tmp 6), none⟩,
    ⟨(some 81), .move (.tmp 9), none⟩,
    ⟨(some 82), .slice 57 (.tmp 80) (some (.tmp 81)) none none, none⟩,
    ⟨(some 83), .call ⟨.builtin .append, #[(.tmp 79), (.tmp 82)], #[57, 57]⟩, none⟩,
    ⟨(some 6), .assign (.tmp 83), none⟩] [0, 1, 6, 7])
  .skip))))))))
  (.reg [⟨(some 26), .move (.tmp 7), none⟩,
    ⟨(some 27), .binOp .add 3 (.tmp 26) (.const (.int .i64 1)) 3, none⟩,
    ⟨(some 7), .assign (.tmp 27), none⟩] [0, 1, 6, 7])))
/-- loop.example/g01062/spec.TownsOn: number 45, params [0, 1] -/
def spec_TownsOn_c : ACode := (.seq (.reg [⟨(some 4), .assign (.const (.slice none 0 0)), none⟩,
    ⟨(some 5), .assign (.const (.bool false)), none⟩] [0, 1])
  (.seq (.reg [⟨(some 12), .buildSlice 57 0 #[], none⟩,
    ⟨(some 6), .assign (.tmp 12), none⟩] [0, 1, 6])
  (.seq (.seq (.reg [⟨(some 13), .move (.tmp 0), none⟩,
    ⟨(some 14), .call ⟨.value (.func 63), #[(.tmp 13)], #[34]⟩, none⟩,
    ⟨(some 15), .unOp .not 4 (.tmp 14), none⟩,
    ⟨(some 16), .move (.tmp 15), none⟩,
    ⟨(some 17), .move (.tmp 1), (some (some 16, false))⟩,
    ⟨(some 18), .call ⟨.value (.func 79), #[(.tmp 17)], #[3]⟩, (some (some 16, false))⟩,
    ⟨(some 19), .unOp .not 4 (.tmp 18), (some (some 16, false))⟩,
    ⟨(some 20), .pick (.tmp 16) (.const (.bool true)) (.tmp 19), none⟩] [0, 1, 6, 20])
  (.cond (.tmp 20) (.seq (.reg [⟨(some 21), .move (.tmp 6), none⟩,
    ⟨(some 4), .assign (.tmp 21), none⟩,
    ⟨(some 5), .assign (.const (.bool false)), none⟩] [4, 5])
  .ret)
  .skip))
  (.seq (.seq (.reg [⟨(some 7), .assign (.const (.int .i64 0)), none⟩] [0, 1, 6, 7])
  (.block 0 (.loop spec_TownsOn_l2)))
  (.seq (.reg [⟨(some 84), .move (.tmp 6), none⟩,
    ⟨(some 4), .assign (.tmp 84), none⟩,
    ⟨(some 5), .assign (.const (.bool true)), none⟩] [4, 5])
  .ret)))))
theorem spec_TownsOn_k : fnOk Tryd.prog (fun _ => false) 45 = some (spec_TownsOn_c.strip, 85, [.tmp 4, .tmp 5]) := by kernel_rfl
/-- head: [1, 6, 17, 18, 19] -/
def impl_TownsOn_l0 : ACode := (.seq (.reg [⟨(some 20), .binOp .lss 3 (.tmp 19) (.tmp 18) 3, none⟩] [1, 6, 17, 18, 19, 20])
  (.seq (.cond (.tmp 20) .skip
  (.exit 0))
  (.seq (.block 1 (.seq (.reg [⟨(some 21), .indexAddr 34 (.tmp 17) (.tmp 19), none⟩,
    ⟨(some 22), .load 26 (.tmp 21), none⟩,
    ⟨(some 8), .alloc 26, none⟩,
    ⟨none, .store 26 (.tmp 8) (.tmp 22), none⟩] [1, 6, 8, 17, 18, 19])
  (.seq (.reg [⟨(some 23), .move (.tmp 1), none⟩,
    ⟨(some 24), .fieldAddr 26 (.tmp 8) 3, none⟩,
    ⟨(some 25), .load 3 (.tmp 24), none⟩,
    ⟨(some 26), .fieldAddr 26 (.tmp 8) 4, none⟩,
    ⟨(some 27), .load 3 (.tmp 26), none⟩,
    ⟨(some 28), .call ⟨.value (.func 76), #[(.tmp 23), (.tmp 25), (.tmp 27)], #[3, 3, 3]⟩, none⟩] [1, 6, 8, 17, 18, 19, 28])
  (.cond (.tmp 28) (.reg [⟨(some 29), .move (.tmp 6), none⟩,
    ⟨(some 30), .fieldAddr 26 (.tmp 8) 1, none⟩,
    ⟨(some 31), .load 9 (.tmp 30), none⟩,
    ⟨(some 32), .buildSlice 57 1 #[(0, (.tmp 31))], none⟩,
    ⟨(some 33), .call ⟨.builtin .append, #[(.tmp 29), (.tmp 32)], #[57, 57]⟩, none⟩,
    ⟨(some 6), .assign (.tmp 33), none⟩] [1, 6, 17, 18, 19])
  .skip))))
  (.reg [⟨(some 34), .binOp .add 3 (.tmp 19) (.const (.int .i64 1)) 3, none⟩,
    ⟨(some 19), .move (.tmp 34), none⟩] [1, 6, 17, 18, 19]))))
/-- loop.example/g01062/impl.TownsOn: number 46, params [0, 1] -/
def impl_TownsOn_c : ACode := (.seq (.reg [⟨(some 4), .assign (.const (.slice none 0 0)), none⟩,
    ⟨(some 5), .assign (.const (.bool false)), none⟩] [0, 1])
  (.seq (.seq (.reg [⟨(some 9), .move (.tmp 0), none⟩,
    ⟨(some 10), .call ⟨.value (.func 64), #[(.tmp 9)], #[34]⟩, none⟩,
    ⟨(some 11), .unOp .not 4 (.tmp 10), none⟩,
    ⟨(some 12), .move (.tmp 11), none⟩,
    ⟨(some 13), .move (.tmp 1), (some (some 12, false))⟩,
    ⟨(some 14), .call ⟨.value (.func 80), #[(.tmp 13)], #[3]⟩, (some (some 12, false))⟩,
    ⟨(some 15), .unOp .not 4 (.tmp 14), (some (some 12, false))⟩,
    ⟨(some 16), .pick (.tmp 12) (.const (.bool true)) (.tmp 15), none⟩] [0, 1, 16])
  (.cond (.tmp 16) (.seq (.reg [⟨(some 4), .assign (.const (.slice none 0 0)), none⟩,
    ⟨(some 5), .assign (.const (.bool false)), none⟩] [4, 5])
  .ret)
  .skip))
  (.seq (.reg [⟨(some 6), .assign (.const (.slice none 0 0)), none⟩] [0, 1, 6])
  (.seq (.seq (.reg [⟨(some 17), .move (.tmp 0), none⟩,
    ⟨(some 18), .call ⟨.builtin .len, #[(.tmp 17)], #[34]⟩, none⟩,
    ⟨(some 19), .move (.const (.int .i64 0)), none⟩] [1, 6, 17, 18, 19])
  (.block 0 (.loop impl_TownsOn_l0)))
  (.seq (.reg [⟨(some 35), .move (.tmp 6), none⟩,
    ⟨(some 36), .call ⟨.value (.func 85), #[(.tmp 35)], #[57]⟩, none⟩] [6])
  (.seq (.reg [⟨(some 37), .move (.tmp 6), none⟩,
    ⟨(some 38), .call ⟨.value (.func 86), #[(.tmp 37)], #[57]⟩, none⟩,
    ⟨(some 4), .assign (.tmp 38), none⟩,
    ⟨(some 5), .assign (.const (.bool true)), none⟩] [4, 5])
  .ret))))))
theorem impl_TownsOn_k : fnOk Tryd.prog (fun _ => false) 46 = some (impl_TownsOn_c.strip, 39, [.tmp 4, .tmp 5]) := by kernel_rfl
/-- head: [0, 1, 5] -/
def laws_eqStringS_l0 : ACode := (.seq (.seq (.reg [⟨(some 11), .move (.tmp 5), none⟩,
    ⟨(some 12), .move (.tmp 0), none⟩,
    ⟨(some 13), .call ⟨.builtin .len, #[(.tmp 12)], #[57]⟩, none⟩,
    ⟨(some 14), .binOp .lss 3 (.tmp 11) (.tmp 13) 3, none⟩] [0, 1, 5, 14])
  (.cond (.tmp 14) .skip
  (.exit 0)))
  (.seq (.block 1 (.seq (.regQ [⟨(some 17), .move (.tmp 0), none⟩,
    ⟨(some 18), .move (.tmp 5), none⟩,
    ⟨(some 19), .indexAddr 57 (.tmp 17) (.tmp 18), none⟩,
    ⟨(some 20), .load 9 (.tmp 19), none⟩,
    ⟨(some 21), .move (.tmp 1), none⟩,
    ⟨(some 22), .move (.tmp 5), none⟩,
    ⟨(some 23), .indexAddr 57 (.tmp 21) (.tmp 22), none⟩,
    ⟨(some 24), .load 9 (.tmp 23), none⟩,
    ⟨(some 25), .binOp .neq 9 (.tmp 20) (.tmp 24) 9, none⟩] [0, 1, 5, 25])
  (.cond (.tmp 25) (.seq (.reg [⟨(some 4), .assign (.const (.bool false)), none⟩] [4])
  .ret)
  .skip)))
  (.reg [⟨(some 15), .move (.tmp 5), none⟩,
    ⟨(some 16), .binOp .add 3 (.tmp 15) (.const (.int .i64 1)) 3, none⟩,
    ⟨(some 5), .assign (.tmp 16), none⟩] [0, 1, 5])))
/-- loop.example/g01062/laws.eqStringS: number 47, params [0, 1] -/
def laws_eqStringS_c : ACode := (.seq (.reg [⟨(some 4), .assign (.const (.bool false)), none⟩] [0, 1])
  (.seq (.seq (.reg [⟨(some 6), .move (.tmp 0), none⟩,
    ⟨(some 7), .call ⟨.builtin .len, #[(.tmp 6)], #[57]⟩, none⟩,
    ⟨(some 8), .move (.tmp 1), none⟩,
    ⟨(some 9), .call ⟨.builtin .len, #[(.tmp 8)], #[57]⟩, none⟩,
    ⟨(some 10), .binOp .neq 3 (.tmp 7) (.tmp 9) 3, none⟩] [0, 1, 10])
  (.cond (.tmp 10) (.seq (.reg [⟨(some 4), .assign (.const (.bool false)), none⟩] [4])
  .ret)
  .skip))
  (.seq (.seq (.reg [⟨(some 5), .assign (.const (.int .i64 0)), none⟩] [0, 1, 5])
  (.block 0 (.loop laws_eqStringS_l0)))
  (.seq (.reg [⟨(some 4), .assign (.const (.bool true)), none⟩] [4])
  .ret))))
theorem laws_eqStringS_k : fnOk Tryd.prog (fun _ => false) 47 = some (laws_eqStringS_c.strip, 26, [.tmp 4]) := by kernel_rfl
/-- head: [0, 1, 5] -/
def laws_markStringS_l0 : ACode := (.seq (.seq (.reg [⟨(some 6), .move (.tmp 5), none⟩,
    ⟨(some 7), .move (.tmp 0), none⟩,
    ⟨(some 8), .call ⟨.builtin .len, #[(.tmp 7)], #[57]⟩, none⟩,
    ⟨(some 9), .binOp .lss 3 (.tmp 6) (.tmp 8) 3, none⟩] [0, 1, 5, 9])
  (.cond (.tmp 9) .skip
  (.exit 0)))
  (.seq (.block 1 (.seq (.reg [⟨(some 12), .move (.tmp 0), none⟩,
    ⟨(some 13), .move (.tmp 5), none⟩,
    ⟨(some 14), .move (.tmp 1), none⟩,
    ⟨(some 15), .call ⟨.value (.func 78), #[(.tmp 14)], #[3]⟩, none⟩,
    ⟨(some 16), .indexAddr 57 (.tmp 12) (.tmp 13), none⟩,
    ⟨none, .store 9 (.tmp 16) (.tmp 15), none⟩] [0, 1, 5])
  (.reg [⟨(some 17), .move (.tmp 1), none⟩,
    ⟨(some 18), .binOp .add 3 (.tmp 17) (.const (.int .i64 1)) 3, none⟩,
    ⟨(some 1), .assign (.tmp 18), none⟩] [0, 1, 5])))
  (.reg [⟨(some 10), .move (.tmp 5), none⟩,
    ⟨(some 11), .binOp .add 3 (.tmp 10) (.const (.int .i64 1)) 3, none⟩,
    ⟨(some 5), .assign (.tmp 11), none⟩] [0, 1, 5])))
/-- loop.example/g01062/laws.markStringS: number 48, params [0, 1] -/
def laws_markStringS_c : ACode := (.seq (.reg [⟨(some 4), .assign (.const (.int .i64 0)), none⟩] [0, 1])
  (.seq (.seq (.reg [⟨(some 5), .assign (.const (.int .i64 0)), none⟩] [0, 1, 5])
  (.block 0 (.loop laws_markStringS_l0)))
  (.seq (.reg [⟨(some 19), .move (.tmp 1), none⟩,
    ⟨(some 4), .assign (.tmp 19), none⟩] [4])
  .ret)))
theorem laws_markStringS_k : fnOk Tryd.prog (fun _ => false) 48 = some (laws_markStringS_c.strip, 20, [.tmp 4]) := by kernel_rfl
/-- head: [0, 1, 5] -/
def laws_heldStringS_l0 : ACode := (.seq (.seq (.reg [⟨(some 6), .move (.tmp 5), none⟩,
    ⟨(some 7), .move (.tmp 0), none⟩,
    ⟨(some 8), .call ⟨.builtin .len, #[(.tmp 7)], #[57]⟩, none⟩,
    ⟨(some 9), .binOp .lss 3 (.tmp 6) (.tmp 8) 3, none⟩] [0, 1, 5, 9])
  (.cond (.tmp 9) .skip
  (.exit 0)))
  (.seq (.block 1 (.seq (.seq (.regQ [⟨(some 12), .move (.tmp 0), none⟩,
    ⟨(some 13), .move (.tmp 5), none⟩,
    ⟨(some 14), .indexAddr 57 (.tmp 12) (.tmp 13), none⟩,
    ⟨(some 15), .load 9 (.tmp 14), none⟩,
    ⟨(some 16), .move (.tmp 1), none⟩,
    ⟨(some 17), .call ⟨.value (.func 78), #[(.tmp 16)], #[3]⟩, none⟩,
    ⟨(some 18), .binOp .neq 9 (.tmp 15) (.tmp 17) 9, none⟩] [0, 1, 5, 18])
  (.cond (.tmp 18) (.seq (.reg [⟨(some 4), .assign (.const (.int .i64 (-1))), none⟩] [4])
  .ret)
  .skip))
  (.reg [⟨(some 19), .move (.tmp 1), none⟩,
    ⟨(some 20), .binOp .add 3 (.tmp 19) (.const (.int .i64 1)) 3, none⟩,
    ⟨(some 1), .assign (.tmp 20), none⟩] [0, 1, 5])))
  (.reg [⟨(some 10), .move (.tmp 5), none⟩,
    ⟨(some 11), .binOp .add 3 (.tmp 10) (.const (.int .i64 1)) 3, none⟩,
    ⟨(some 5), .assign (.tmp 11), none⟩] [0, 1, 5])))
/-- loop.example/g01062/laws.heldStringS: number 49, params [0, 1] -/
def laws_heldStringS_c : ACode := (.seq (.reg [⟨(some 4), .assign (.const (.int .i64 0)), none⟩] [0, 1])
  (.seq (.seq (.reg [⟨(some 5), .assign (.const (.int .i64 0)), none⟩] [0, 1, 5])
  (.block 0 (.loop laws_heldStringS_l0)))
  (.seq (.reg [⟨(some 21), .move (.tmp 1), none⟩,
    ⟨(some 4), .assign (.tmp 21), none⟩] [4])
  .ret)))
theorem laws_heldStringS_k : fnOk Tryd.prog (fun _ => false) 49 = some (laws_heldStringS_c.strip, 22, [.tmp 4]) := by kernel_rfl
/-- loop.example/g01062/laws.rBig: number 50, params [0] -/
def laws_rBig_c : ACode := (.seq (.reg [⟨(some 2), .assign (.const (.bool false)), none⟩] [0])
  (.seq (.reg [⟨(some 3), .move (.tmp 0), none⟩,
    ⟨(some 4), .call ⟨.builtin .len, #[(.tmp 3)], #[63]⟩, none⟩,
    ⟨(some 5), .binOp .gtr 3 (.tmp 4) (.const (.int .i64 65536)) 3, none⟩,
    ⟨(some 2), .assign (.tmp 5), none⟩] [2])
  .ret))
theorem laws_rBig_k : fnOk Tryd.prog (fun _ => false) 50 = some (laws_rBig_c.strip, 6, [.tmp 2]) := by kernel_rfl
/-- head: [0, 1, 5] -/
def laws_rMarks_l0 : ACode := (.seq (.seq (.reg [⟨(some 11), .move (.tmp 5), none⟩,
    ⟨(some 12), .move (.tmp 0), none⟩,
    ⟨(some 13), .call ⟨.builtin .len, #[(.tmp 12)], #[34]⟩, none⟩,
    ⟨(some 14), .binOp .lss 3 (.tmp 11) (.tmp 13) 3, none⟩] [0, 1, 5, 14])
  (.cond (.tmp 14) .skip
  (.exit 0)))
  (.seq (.block 1 (.seq (.regQ [⟨(some 17), .move (.tmp 0), none⟩,
    ⟨(some 18), .move (.tmp 5), none⟩,
    ⟨(some 19), .indexAddr 34 (.tmp 17) (.tmp 18), none⟩,
    ⟨(some 20), .load 26 (.tmp 19), none⟩,
    ⟨(some 21), .move (.tmp 1), none⟩,
    ⟨(some 22), .move (.tmp 5), none⟩,
    ⟨(some 23), .indexAddr 34 (.tmp 21) (.tmp 22), none⟩,
    ⟨(some 24), .load 26 (.tmp 23), none⟩,
    ⟨(some 25), .binOp .neq 26 (.tmp 20) (.tmp 24) 26, none⟩] [0, 1, 5, 25])
  (.cond (.tmp 25) (.seq (.reg [⟨(some 4), .assign (.const (.bool false)), none⟩] [4])
  .ret)
  .skip)))
  (.reg [⟨(some 15), .move (.tmp 5), none⟩,
    ⟨(some 16), .binOp .add 3 (.tmp 15) (.const (.int .i64 1)) 3, none⟩,
    ⟨(some 5), .assign (.tmp 16), none⟩] [0, 1, 5])))
/-- loop.example/g01062/laws.rMarks: number 52, params [0, 1] -/
def laws_rMarks_c : ACode := (.seq (.reg [⟨(some 4), .assign (.const (.bool false)), none⟩] [0, 1])
  (.seq (.seq (.reg [⟨(some 6), .move (.tmp 0), none⟩,
    ⟨(some 7), .call ⟨.builtin .len, #[(.tmp 6)], #[34]⟩, none⟩,
    ⟨(some 8), .move (.tmp 1), none⟩,
    ⟨(some 9), .call ⟨.builtin .len, #[(.tmp 8)], #[34]⟩, none⟩,
    ⟨(some 10), .binOp .neq 3 (.tmp 7) (.tmp 9) 3, none⟩] [0, 1, 10])
  (.cond (.tmp 10) (.seq (.reg [⟨(some 4), .assign (.const (.bool false)), none⟩] [4])
  .ret)
  .skip))
  (.seq (.seq (.reg [⟨(some 5), .assign (.const (.int .i64 0)), none⟩] [0, 1, 5])
  (.block 0 (.loop laws_rMarks_l0)))
  (.seq (.reg [⟨(some 4), .assign (.const (.bool true)), none⟩] [4])
  .ret))))
theorem laws_rMarks_k : fnOk Tryd.prog (fun _ => false) 52 = some (laws_rMarks_c.strip, 26, [.tmp 4]) := by kernel_rfl
/-- head: [0, 1, 5] -/
def laws_rHas_l0 : ACode := (.seq (.seq (.reg [⟨(some 6), .move (.tmp 5), none⟩,
    ⟨(some 7), .move (.tmp 0), none⟩,
    ⟨(some 8), .call ⟨.builtin .len, #[(.tmp 7)], #[51]⟩, none⟩,
    ⟨(some 9), .binOp .lss 3 (.tmp 6) (.tmp 8) 3, none⟩] [0, 1, 5, 9])
  (.cond (.tmp 9) .skip
  (.exit 0)))
  (.seq (.block 1 (.seq (.reg [⟨(some 12), .move (.tmp 0), none⟩,
    ⟨(some 13), .move (.tmp 5), none⟩,
    ⟨(some 14), .indexAddr 51 (.tmp 12) (.tmp 13), none⟩,
    ⟨(some 15), .load 3 (.tmp 14), none⟩,
    ⟨(some 16), .move (.tmp 1), none⟩,
    ⟨(some 17), .binOp .eql 3 (.tmp 15) (.tmp 16) 3, none⟩] [0, 1, 5, 17])
  (.cond (.tmp 17) (.seq (.reg [⟨(some 4), .assign (.const (.bool true)), none⟩] [4])
  .ret)
  .skip)))
  (.reg [⟨(some 10), .move (.tmp 5), none⟩,
    ⟨(some 11), .binOp .add 3 (.tmp 10) (.const (.int .i64 1)) 3, none⟩,
    ⟨(some 5), .assign (.tmp 11), none⟩] [0, 1, 5])))
/-- loop.example/g01062/laws.rHas: number 53, params [0, 1] -/
def laws_rHas_c : ACode := (.seq (.reg [⟨(some 4), .assign (.const (.bool false)), none⟩] [0, 1])
  (.seq (.seq (.reg [⟨(some 5), .assign (.const (.int .i64 0)), none⟩] [0, 1, 5])
  (.block 0 (.loop laws_rHas_l0)))
  (.seq (.reg [⟨(some 4), .assign (.const (.bool false)), none⟩] [4])
  .ret)))
theorem laws_rHas_k : fnOk Tryd.prog (fun _ => false) 53 = some (laws_rHas_c.strip, 18, [.tmp 4]) := by kernel_rfl
/-- head: [0, 1, 5] -/
def laws_rInts_l0 : ACode := (.seq (.seq (.reg [⟨(some 11), .move (.tmp 5), none⟩,
    ⟨(some 12), .move (.tmp 0), none⟩,
    ⟨(some 13), .call ⟨.builtin .len, #[(.tmp 12)], #[51]⟩, none⟩,
    ⟨(some 14), .binOp .lss 3 (.tmp 11) (.tmp 13) 3, none⟩] [0, 1, 5, 14])
  (.cond (.tmp 14) .skip
  (.exit 0)))
  (.seq (.block 1 (.seq (.regQ [⟨(some 17), .move (.tmp 0), none⟩,
    ⟨(some 18), .move (.tmp 5), none⟩,
    ⟨(some 19), .indexAddr 51 (.tmp 17) (.tmp 18), none⟩,
    ⟨(some 20), .load 3 (.tmp 19), none⟩,
    ⟨(some 21), .move (.tmp 1), none⟩,
    ⟨(some 22), .move (.tmp 5), none⟩,
    ⟨(some 23), .indexAddr 51 (.tmp 21) (.tmp 22), none⟩,
    ⟨(some 24), .load 3 (.tmp 23), none⟩,
    ⟨(some 25), .binOp .neq 3 (.tmp 20) (.tmp 24) 3, none⟩] [0, 1, 5, 25])
  (.cond (.tmp 25) (.seq (.reg [⟨(some 4), .assign (.const (.bool false)), none⟩] [4])
  .ret)
  .skip)))
  (.reg [⟨(some 15), .move (.tmp 5), none⟩,
    ⟨(some 16), .binOp .add 3 (.tmp 15) (.const (.int .i64 1)) 3, none⟩,
    ⟨(some 5), .assign (.tmp 16), none⟩] [0, 1, 5])))
/-- loop.example/g01062/laws.rInts: number 58, params [0, 1] -/
def laws_rInts_c : ACode := (.seq (.reg [⟨(some 4), .assign (.const (.bool false)), none⟩] [0, 1])
  (.seq (.seq (.reg [⟨(some 6), .move (.tmp 0), none⟩,
    ⟨(some 7), .call ⟨.builtin .len, #[(.tmp 6)], #[51]⟩, none⟩,
    ⟨(some 8), .move (.tmp 1), none⟩,
    ⟨(some 9), .call ⟨.builtin .len, #[(.tmp 8)], #[51]⟩, none⟩,
    ⟨(some 10), .binOp .neq 3 (.tmp 7) (.tmp 9) 3, none⟩] [0, 1, 10])
  (.cond (.tmp 10) (.seq (.reg [⟨(some 4), .assign (.const (.bool false)), none⟩] [4])
  .ret)
  .skip))
  (.seq (.seq (.reg [⟨(some 5), .assign (.const (.int .i64 0)), none⟩] [0, 1, 5])
  (.block 0 (.loop laws_rInts_l0)))
  (.seq (.reg [⟨(some 4), .assign (.const (.bool true)), none⟩] [4])
  .ret))))
theorem laws_rInts_k : fnOk Tryd.prog (fun _ => false) 58 = some (laws_rInts_c.strip, 26, [.tmp 4]) := by kernel_rfl
/-- head: [1, 3, 4] -/
def spec_l11One_l0 : ACode := (.seq (.seq (.reg [⟨(some 44), .move (.tmp 4), none⟩,
    ⟨(some 45), .fieldAddr 26 (.tmp 1) 5, none⟩,
    ⟨(some 46), .load 9 (.tmp 45), none⟩,
    ⟨(some 47), .call ⟨.builtin .len, #[(.tmp 46)], #[9]⟩, none⟩,
    ⟨(some 48), .binOp .lss 3 (.tmp 44) (.tmp 47) 3, none⟩] [1, 3, 4, 48])
  (.cond (.tmp 48) .skip
  (.exit 0)))
  (.seq (.block 1 (.seq (.seq (.reg [⟨(some 51), .fieldAddr 26 (.tmp 1) 5, none⟩,
    ⟨(some 52), .load 9 (.tmp 51), none⟩,
    ⟨(some 53), .move (.tmp 4), none⟩,
    ⟨(some 54), .index 9 (.tmp 52) (.tmp 53), none⟩,
    ⟨(some 55), .binOp .neq 5 (.tmp 54) (.const (.int .u8 46)) 5, none⟩,
    ⟨(some 56), .move (.tmp 55), none⟩,
    ⟨(some 57), .fieldAddr 26 (.tmp 1) 5, (some (some 56, true))⟩,
    ⟨(some 58), .load 9 (.tmp 57), (some (some 56, true))⟩,
    ⟨(some 59), .move (.tmp 4), (some (some 56, true))⟩,
    ⟨(some 60), .index 9 (.tmp 58) (.tmp 59), (some (some 56, true))⟩,
    ⟨(some 61), .binOp .neq 5 (.tmp 60) (.const (.int .u8 120)) 5, (some (some 56, true))⟩,
    ⟨(some 62), .pick (.tmp 56) (.tmp 61) (.const (.bool false)), none⟩] [1, 3, 4, 62])
  (.cond (.tmp 62) (.seq (.reg [⟨(some 2), .assign (.const (.bool false)), none⟩] [2])
  .ret)
  .skip))
  (.reg [⟨(some 63), .move (.tmp 3), none⟩,
    ⟨(some 64), .move (.tmp 63), none⟩,
    ⟨(some 65), .fieldAddr 26 (.tmp 1) 5, (some (some 64, false))⟩,
    ⟨(some 66), .load 9 (.tmp 65), (some (some 64, false))⟩,
    ⟨(some 67), .move (.tmp 4), (some (some 64, false))⟩,
    ⟨(some 68), .index 9 (.tmp 66) (.tmp 67), (some (some 64, false))⟩,
    ⟨(some 69), .binOp .eql 5 (.tmp 68) (.const (.int .u8 46)) 5, (some (some 64, false))⟩,
    ⟨(some 70), .pick (.tmp 64) (.const (.bool true)) (.tmp 69), none⟩,
    ⟨(some 3), .assign (.tmp 70), none⟩] [1, 3, 4])))
  (.reg [⟨(some 49), .move (.tmp 4), none⟩,
    ⟨(some 50), .binOp .add 3 (.tmp 49) (.const (.int .i64 1)) 3, none⟩,
    ⟨(some 4), .assign (.tmp 50), none⟩] [1, 3, 4])))
/-- loop.example/g01062/spec.l11One: number 59, params [0] -/
def spec_l11One_c : ACode := (.seq (.reg [⟨(some 1), .box 26 (.tmp 0), none⟩,
    ⟨(some 2), .assign (.const (.bool false)), none⟩] [1])
  (.seq (.seq (.reg [⟨(some 5), .fieldAddr 26 (.tmp 1) 0, none⟩,
    ⟨(some 6), .load 3 (.tmp 5), none⟩,
    ⟨(some 7), .call ⟨.value (.func 75), #[(.tmp 6), (.const (.int .i64 1)), (.const (.int .i64 999))], #[3, 3, 3]⟩, none⟩,
    ⟨(some 8), .unOp .not 4 (.tmp 7), none⟩,
    ⟨(some 9), .move (.tmp 8), none⟩,
    ⟨(some 10), .fieldAddr 26 (.tmp 1) 1, (some (some 9, false))⟩,
    ⟨(some 11), .load 9 (.tmp 10), (some (some 9, false))⟩,
    ⟨(some 12), .call ⟨.value (.func 66), #[(.tmp 11)], #[9]⟩, (some (some 9, false))⟩,
    ⟨(some 13), .unOp .not 4 (.tmp 12), (some (some 9, false))⟩,
    ⟨(some 14), .pick (.tmp 9) (.const (.bool true)) (.tmp 13), none⟩,
    ⟨(some 15), .move (.tmp 14), none⟩,
    ⟨(some 16), .fieldAddr 26 (.tmp 1) 2, (some (some 15, false))⟩,
    ⟨(some 17), .load 3 (.tmp 16), (some (some 15, false))⟩,
    ⟨(some 18), .call ⟨.value (.func 75), #[(.tmp 17), (.const (.int .i64 1)), (.const (.int .i64 5))], #[3, 3, 3]⟩, (some (some 15, false))⟩,
    ⟨(some 19), .unOp .not 4 (.tmp 18), (some (some 15, false))⟩,
    ⟨(some 20), .pick (.tmp 15) (.const (.bool true)) (.tmp 19), none⟩,
    ⟨(some 21), .move (.tmp 20), none⟩,
    ⟨(some 22), .fieldAddr 26 (.tmp 1) 4, (some (some 21, false))⟩,
    ⟨(some 23), .load 3 (.tmp 22), (some (some 21, false))⟩,
    ⟨(some 24), .call ⟨.value (.func 79), #[(.tmp 23)], #[3]⟩, (some (some 21, false))⟩,
    ⟨(some 25), .unOp .not 4 (.tmp 24), (some (some 21, false))⟩,
    ⟨(some 26), .pick (.tmp 21) (.const (.bool true)) (.tmp 25), none⟩,
    ⟨(some 27), .move (.tmp 26), none⟩,
    ⟨(some 28), .fieldAddr 26 (.tmp 1) 3, (some (some 27, false))⟩,
    ⟨(some 29), .load 3 (.tmp 28), (some (some 27, false))⟩,
    ⟨(some 30), .fieldAddr 26 (.tmp 1) 4, (some (some 27, false))⟩,
    ⟨(some 31), .load 3 (.tmp 30), (some (some 27, false))⟩,
    ⟨(some 32), .call ⟨.value (.func 75), #[(.tmp 29), (.const (.int .i64 0)), (.tmp 31)], #[3, 3, 3]⟩, (some (some 27, false))⟩,
    ⟨(some 33), .unOp .not 4 (.tmp 32), (some (some 27, false))⟩,
    ⟨(some 34), .pick (.tmp 27) (.const (.bool true)) (.tmp 33), none⟩,
    ⟨(some 35), .move (.tmp 34), none⟩,
    ⟨(some 36), .fieldAddr 26 (.tmp 1) 5, (some (some 35, false))⟩,
    ⟨(some 37), .load 9 (.tmp 36), (some (some 35, false))⟩,
    ⟨(some 38), .call ⟨.builtin .len, #[(.tmp 37)], #[9]⟩, (some (some 35, false))⟩,
    ⟨(some 39), .fieldAddr 26 (.tmp 1) 1, (some (some 35, false))⟩,
    ⟨(some 40), .load 9 (.tmp 39), (some (some 35, false))⟩,
    ⟨(some 41), .call ⟨.builtin .len, #[(.tmp 40)], #[9]⟩, (some (some 35, false))⟩,
    ⟨(some 42), .binOp .neq 3 (.tmp 38) (.tmp 41) 3, (some (some 35, false))⟩,
    ⟨(some 43), .pick (.tmp 35) (.const (.bool true)) (.tmp 42), none⟩] [1, 43])
  (.cond (.tmp 43) (.seq (.reg [⟨(some 2), .assign (.const (.bool false)), none⟩] [2])
  .ret)
  .skip))
  (.seq (.reg [⟨(some 3), .assign (.const (.bool false)), none⟩] [1, 3])
  (.seq (.seq (.reg [⟨(some 4), .assign (.const (.int .i64 0)), none⟩] [1, 3, 4])
  (.block 0 (.loop spec_l11One_l0)))
  (.seq (.reg [⟨(some 71), .move (.tmp 3), none⟩,
    ⟨(some 2), .assign (.tmp 71), none⟩] [2])
  .ret)))))
theorem spec_l11One_k : fnOk Tryd.prog (fun _ => false) 59 = some (spec_l11One_c.strip, 72, [.tmp 2]) := by kernel_rfl
/-- loop.example/g01062/impl.isPostmark: number 60, params [0] -/
def impl_isPostmark_c : ACode := (.seq (.reg [⟨(some 1), .box 26 (.tmp 0), none⟩,
    ⟨(some 2), .assign (.const (.bool false)), none⟩] [1])
  (.seq (.reg [⟨(some 3), .fieldAddr 26 (.tmp 1) 0, none⟩,
    ⟨(some 4), .load 3 (.tmp 3), none⟩,
    ⟨(some 5), .call ⟨.value (.func 76), #[(.tmp 4), (.const (.int .i64 1)), (.const (.int .i64 999))], #[3, 3, 3]⟩, none⟩,
    ⟨(some 6), .move (.tmp 5), none⟩,
    ⟨(some 7), .fieldAddr 26 (.tmp 1) 1, (some (some 6, true))⟩,
    ⟨(some 8), .load 9 (.tmp 7), (some (some 6, true))⟩,
    ⟨(some 9), .call ⟨.value (.func 67), #[(.tmp 8)], #[9]⟩, (some (some 6, true))⟩,
    ⟨(some 10), .pick (.tmp 6) (.tmp 9) (.const (.bool false)), none⟩,
    ⟨(some 11), .move (.tmp 10), none⟩,
    ⟨(some 12), .fieldAddr 26 (.tmp 1) 2, (some (some 11, true))⟩,
    ⟨(some 13), .load 3 (.tmp 12), (some (some 11, true))⟩,
    ⟨(some 14), .call ⟨.value (.func 76), #[(.tmp 13), (.const (.int .i64 1)), (.const (.int .i64 5))], #[3, 3, 3]⟩, (some (some 11, true))⟩,
    ⟨(some 15), .pick (.tmp 11) (.tmp 14) (.const (.bool false)), none⟩,
    ⟨(some 16), .move (.tmp 15), none⟩,
    ⟨(some 17), .fieldAddr 26 (.tmp 1) 3, (some (some 16, true))⟩,
    ⟨(some 18), .load 3 (.tmp 17), (some (some 16, true))⟩,
    ⟨(some 19), .call ⟨.value (.func 80), #[(.tmp 18)], #[3]⟩, (some (some 16, true))⟩,
    ⟨(some 20), .pick (.tmp 16) (.tmp 19) (.const (.bool false)), none⟩,
    ⟨(some 21), .move (.tmp 20), none⟩,
    ⟨(some 22), .fieldAddr 26 (.tmp 1) 4, (some (some 21, true))⟩,
    ⟨(some 23), .load 3 (.tmp 22), (some (some 21, true))⟩,
    ⟨(some 24), .call ⟨.value (.func 80), #[(.tmp 23)], #[3]⟩, (some (some 21, true))⟩,
    ⟨(some 25), .pick (.tmp 21) (.tmp 24) (.const (.bool false)), none⟩,
    ⟨(some 26), .move (.tmp 25), none⟩,
    ⟨(some 27), .fieldAddr 26 (.tmp 1) 3, (some (some 26, true))⟩,
    ⟨(some 28), .load 3 (.tmp 27), (some (some 26, true))⟩,
    ⟨(some 29), .fieldAddr 26 (.tmp 1) 4, (some (some 26, true))⟩,
    ⟨(some 30), .load 3 (.tmp 29), (some (some 26, true))⟩,
    ⟨(some 31), .binOp .leq 3 (.tmp 28) (.tmp 30) 3, (some (some 26, true))⟩,
    ⟨(some 32), .pick (.tmp 26) (.tmp 31) (.const (.bool false)), none⟩,
    ⟨(some 33), .move (.tmp 32), none⟩,
    ⟨(some 34), .fieldAddr 26 (.tmp 1) 5, (some (some 33, true))⟩,
    ⟨(some 35), .load 9 (.tmp 34), (some (some 33, true))⟩,
    ⟨(some 36), .call ⟨.builtin .len, #[(.tmp 35)], #[9]⟩, (some (some 33, true))⟩,
    ⟨(some 37), .fieldAddr 26 (.tmp 1) 1, (some (some 33, true))⟩,
    ⟨(some 38), .load 9 (.tmp 37), (some (some 33, true))⟩,
    ⟨(some 39), .call ⟨.builtin .len, #[(.tmp 38)], #[9]⟩, (some (some 33, true))⟩,
    ⟨(some 40), .binOp .eql 3 (.tmp 36) (.tmp 39) 3, (some (some 33, true))⟩,
    ⟨(some 41), .pick (.tmp 33) (.tmp 40) (.const (.bool false)), none⟩,
    ⟨(some 42), .move (.tmp 41), none⟩,
    ⟨(some 43), .fieldAddr 26 (.tmp 1) 5, (some (some 42, true))⟩,
    ⟨(some 44), .load 9 (.tmp 43), (some (some 42, true))⟩,
    ⟨(some 45), .call ⟨.value (.func 96), #[(.tmp 44), (.const (.string ⟨#[46, 120]⟩))], #[9, 9]⟩, (some (some 42, true))⟩,
    ⟨(some 46), .binOp .eql 9 (.tmp 45) (.const (.string ⟨#[]⟩)) 9, (some (some 42, true))⟩,
    ⟨(some 47), .pick (.tmp 42) (.tmp 46) (.const (.bool false)), none⟩,
    ⟨(some 48), .move (.tmp 47), none⟩,
    ⟨(some 49), .fieldAddr 26 (.tmp 1) 5, (some (some 48, true))⟩,
    ⟨(some 50), .load 9 (.tmp 49), (some (some 48, true))⟩,
    ⟨(some 51), .call ⟨.value (.func 97), #[(.tmp 50), (.const (.string ⟨#[46]⟩))], #[9, 9]⟩, (some (some 48, true))⟩,
    ⟨(some 52), .pick (.tmp 48) (.tmp 51) (.const (.bool false)), none⟩,
    ⟨(some 2), .assign (.tmp 52), none⟩] [2])
  .ret))
theorem impl_isPostmark_k : fnOk Tryd.prog (fun _ => false) 60 = some (impl_isPostmark_c.strip, 53, [.tmp 2]) := by kernel_rfl
/-- head: [1, 3, 4] -/
def spec_l11Shown_l0 : ACode := (.seq (.seq (.reg [⟨(some 5), .move (.tmp 4), none⟩,
    ⟨(some 6), .fieldAddr 26 (.tmp 1) 1, none⟩,
    ⟨(some 7), .load 9 (.tmp 6), none⟩,
    ⟨(some 8), .call ⟨.builtin .len, #[(.tmp 7)], #[9]⟩, none⟩,
    ⟨(some 9), .binOp .lss 3 (.tmp 5) (.tmp 8) 3, none⟩] [1, 3, 4, 9])
  (.cond (.tmp 9) .skip
  (.exit 0)))
  (.seq (.block 1 (.seq (.reg [⟨(some 12), .fieldAddr 26 (.tmp 1) 5, none⟩,
    ⟨(some 13), .load 9 (.tmp 12), none⟩,
    ⟨(some 14), .move (.tmp 4), none⟩,
    ⟨(some 15), .index 9 (.tmp 13) (.tmp 14), none⟩,
    ⟨(some 16), .binOp .eql 5 (.tmp 15) (.const (.int .u8 120)) 5, none⟩] [1, 3, 4, 16])
  (.cond (.tmp 16) (.reg [⟨(some 17), .move (.tmp 3), none⟩,
    ⟨(some 18), .binOp .add 9 (.tmp 17) (.const (.string ⟨#[63]⟩)) 9, none⟩,
    ⟨(some 3), .assign (.tmp 18), none⟩] [1, 3, 4])
  (.reg [⟨(some 19), .move (.tmp 3), none⟩,
    ⟨(some 20), .fieldAddr 26 (.tmp 1) 1, none⟩,
    ⟨(some 21), .load 9 (.tmp 20), none⟩,
    ⟨(some 22), .move (.tmp 4), none⟩,
    ⟨(some 23), .move (.tmp 4), none⟩,
    ⟨(some 24), .binOp .add 3 (.tmp 23) (.const (.int .i64 1)) 3, none⟩,
    ⟨(some 25), .slice 9 (.tmp 21) (some (.tmp 22)) (some (.tmp 24)) none, none⟩,
    ⟨(some 26), .binOp .add 9 (.tmp 19) (.tmp 25) 9, none⟩,
    ⟨(some 3), .assign (.tmp 26), none⟩] [1, 3, 4]))))
  (.reg [⟨(some 10), .move (.tmp 4), none⟩,
    ⟨(some 11), .binOp .add 3 (.tmp 10) (.const (.int .i64 1)) 3, none⟩,
    ⟨(some 4), .assign (.tmp 11), none⟩] [1, 3, 4])))
/-- loop.example/g01062/spec.l11Shown: number 61, params [0] -/
def spec_l11Shown_c : ACode := (.seq (.reg [⟨(some 1), .box 26 (.tmp 0), none⟩,
    ⟨(some 2), .assign (.const (.string ⟨#[]⟩)), none⟩] [1])
  (.seq (.reg [⟨(some 3), .assign (.const (.string ⟨#[]⟩)), none⟩] [1, 3])
  (.seq (.seq (.reg [⟨(some 4), .assign (.const (.int .i64 0)), none⟩] [1, 3, 4])
  (.block 0 (.loop spec_l11Shown_l0)))
  (.seq (.reg [⟨(some 27), .move (.tmp 3), none⟩,
    ⟨(some 2), .assign (.tmp 27), none⟩] [2])
  .ret))))
theorem spec_l11Shown_k : fnOk Tryd.prog (fun _ => false) 61 = some (spec_l11Shown_c.strip, 28, [.tmp 2]) := by kernel_rfl
/-- head: [1, 3, 9, 10] -/
def impl_shownBy_l0 : ACode := (.seq (.reg [⟨(some 11), .binOp .lss 3 (.tmp 10) (.tmp 9) 3, none⟩] [1, 3, 9, 10, 11])
  (.seq (.cond (.tmp 11) .skip
  (.exit 0))
  (.seq (.block 1 (.seq (.reg [⟨(some 12), .move (.tmp 10), none⟩,
    ⟨(some 4), .assign (.tmp 12), none⟩] [1, 3, 4, 9, 10])
  (.seq (.reg [⟨(some 13), .fieldAddr 26 (.tmp 1) 5, none⟩,
    ⟨(some 14), .load 9 (.tmp 13), none⟩,
    ⟨(some 15), .move (.tmp 4), none⟩,
    ⟨(some 16), .index 9 (.tmp 14) (.tmp 15), none⟩,
    ⟨(some 17), .binOp .eql 5 (.tmp 16) (.const (.int .u8 120)) 5, none⟩] [1, 3, 4, 9, 10, 17])
  (.cond (.tmp 17) (.reg [⟨(some 18), .move (.tmp 3), none⟩,
    ⟨(some 19), .move (.tmp 4), none⟩,
    ⟨(some 20), .indexAddr 63 (.tmp 18) (.tmp 19), none⟩,
    ⟨none, .store 5 (.tmp 20) (.const (.int .u8 63)), none⟩] [1, 3, 9, 10])
  .skip))))
  (.reg [⟨(some 21), .binOp .add 3 (.tmp 10) (.const (.int .i64 1)) 3, none⟩,
    ⟨(some 10), .move (.tmp 21), none⟩] [1, 3, 9, 10]))))
/-- loop.example/g01062/impl.shownBy: number 62, params [0] -/
def impl_shownBy_c : ACode := (.seq (.reg [⟨(some 1), .box 26 (.tmp 0), none⟩,
    ⟨(some 2), .assign (.const (.string ⟨#[]⟩)), none⟩] [1])
  (.seq (.reg [⟨(some 5), .fieldAddr 26 (.tmp 1) 1, none⟩,
    ⟨(some 6), .load 9 (.tmp 5), none⟩,
    ⟨(some 7), .convert 9 63 (.tmp 6), none⟩,
    ⟨(some 3), .assign (.tmp 7), none⟩] [1, 3])
  (.seq (.seq (.reg [⟨(some 8), .move (.tmp 3), none⟩,
    ⟨(some 9), .call ⟨.builtin .len, #[(.tmp 8)], #[63]⟩, none⟩,
    ⟨(some 10), .move (.const (.int .i64 0)), none⟩] [1, 3, 9, 10])
  (.block 0 (.loop impl_shownBy_l0)))
  (.seq (.reg [⟨(some 22), .move (.tmp 3), none⟩,
    ⟨(some 23), .convert 63 9 (.tmp 22), none⟩,
    ⟨(some 2), .assign (.tmp 23), none⟩] [2])
  .ret))))
theorem impl_shownBy_k : fnOk Tryd.prog (fun _ => false) 62 = some (impl_shownBy_c.strip, 24, [.tmp 2]) := by kernel_rfl
/-- head: [0, 3] -/
def spec_l11Good_l0 : ACode := (.seq (.seq (.reg [⟨(some 4), .move (.tmp 3), none⟩,
    ⟨(some 5), .move (.tmp 0), none⟩,
    ⟨(some 6), .call ⟨.builtin .len, #[(.tmp 5)], #[34]⟩, none⟩,
    ⟨(some 7), .binOp .lss 3 (.tmp 4) (.tmp 6) 3, none⟩] [0, 3, 7])
  (.cond (.tmp 7) .skip
  (.exit 0)))
  (.seq (.block 1 (.seq (.regQ [⟨(some 10), .move (.tmp 0), none⟩,
    ⟨(some 11), .move (.tmp 3), none⟩,
    ⟨(some 12), .indexAddr 34 (.tmp 10) (.tmp 11), none⟩,
    ⟨(some 13), .load 26 (.tmp 12), none⟩,
    ⟨(some 14), .call ⟨.value (.func 59), #[(.tmp 13)], #[26]⟩, none⟩,
    ⟨(some 15), .unOp .not 4 (.tmp 14), none⟩,
    ⟨(some 16), .move (.tmp 15), none⟩,
    ⟨(some 17), .move (.tmp 3), (some (some 16, false))⟩,
    ⟨(some 18), .binOp .gtr 3 (.tmp 17) (.const (.int .i64 0)) 3, (some (some 16, false))⟩,
    ⟨(some 19), .move (.tmp 18), (some (some 16, false))⟩,
    ⟨(some 20), .move (.tmp 0), (some (some 19, true))⟩,
    ⟨(some 21), .move (.tmp 3), (some (some 19, true))⟩,
    ⟨(some 22), .binOp .sub 3 (.tmp 21) (.const (.int .i64 1)) 3, (some (some 19, true))⟩,
    ⟨(some 23), .indexAddr 34 (.tmp 20) (.tmp 22), (some (some 19, true))⟩,
    ⟨(some 24), .fieldAddr 26 (.tmp 23) 0, (some (some 19, true))⟩,
    ⟨(some 25), .load 3 (.tmp 24), (some (some 19, true))⟩,
    ⟨(some 26), .move (.tmp 0), (some (some 19, true))⟩,
    ⟨(some 27), .move (.tmp 3), (some (some 19, true))⟩,
    ⟨(some 28), .indexAddr 34 (.tmp 26) (.tmp 27), (some (some 19, true))⟩,
    ⟨(some 29), .fieldAddr 26 (.tmp 28) 0, (some (some 19, true))⟩,
    ⟨(some 30), .load 3 (.tmp 29), (some (some 19, true))⟩,
    ⟨(some 31), .binOp .geq 3 (.tmp 25) (.tmp 30) 3, (some (some 19, true))⟩,
    ⟨(some 32), .pick (.tmp 19) (.tmp 31) (.const (.bool false)), (some (some 16, false))⟩,
    ⟨(some 33), .pick (.tmp 16) (.const (.bool true)) (.tmp 32), none⟩] [0, 3, 33])
  (.cond (.tmp 33) (.seq (.reg [⟨(some 2), .assign (.const (.bool false)), none⟩] [2])
  .ret)
  .skip)))
  (.reg [⟨(some 8), .move (.tmp 3), none⟩,
    ⟨(some 9), .binOp .add 3 (.tmp 8) (.const (.int .i64 1)) 3, none⟩,
    ⟨(some 3), .assign (.tmp 9), none⟩] [0, 3])))
/-- loop.example/g01062/spec.l11Good: number 63, params [0] -/
def spec_l11Good_c : ACode := (.seq (.reg [⟨(some 2), .assign (.const (.bool false)), none⟩] [0])
  (.seq (.seq (.reg [⟨(some 3), .assign (.const (.int .i64 0)), none⟩] [0, 3])
  (.block 0 (.loop spec_l11Good_l0)))
  (.seq (.reg [⟨(some 34), .move (.tmp 0), none⟩,
    ⟨(some 35), .call ⟨.builtin .len, #[(.tmp 34)], #[34]⟩, none⟩,
    ⟨(some 36), .binOp .leq 3 (.tmp 35) (.const (.int .i64 12)) 3, none⟩,
    ⟨(some 2), .assign (.tmp 36), none⟩] [2])
  .ret)))
theorem spec_l11Good_k : fnOk Tryd.prog (fun _ => false) 63 = some (spec_l11Good_c.strip, 37, [.tmp 2]) := by kernel_rfl
/-- head: [0, 5, 6, 7] -/
def impl_arePostmarks_l0 : ACode := (.seq (.reg [⟨(some 8), .binOp .lss 3 (.tmp 7) (.tmp 6) 3, none⟩] [0, 5, 6, 7, 8])
  (.seq (.cond (.tmp 8) .skip
  (.exit 0))
  (.seq (.block 1 (.seq (.reg [⟨(some 9), .move (.tmp 7), none⟩,
    ⟨(some 10), .indexAddr 34 (.tmp 5) (.tmp 7), none⟩,
    ⟨(some 11), .load 26 (.tmp 10), none⟩,
    ⟨(some 4), .alloc 26, none⟩,
    ⟨(some 3), .assign (.tmp 9), none⟩,
    ⟨none, .store 26 (.tmp 4) (.tmp 11), none⟩] [0, 3, 4, 5, 6, 7])
  (.seq (.regQ [⟨(some 12), .load 26 (.tmp 4), none⟩,
    ⟨(some 13), .call ⟨.value (.func 60), #[(.tmp 12)], #[26]⟩, none⟩,
    ⟨(some 14), .unOp .not 4 (.tmp 13), none⟩,
    ⟨(some 15), .move (.tmp 14), none⟩,
    ⟨(some 16), .move (.tmp 3), (some (some 15, false))⟩,
    ⟨(some 17), .binOp .gtr 3 (.tmp 16) (.const (.int .i64 0)) 3, (some (some 15, false))⟩,
    ⟨(some 18), .move (.tmp 17), (some (some 15, false))⟩,
    ⟨(some 19), .move (.tmp 0), (some (some 18, true))⟩,
    ⟨(some 20), .move (.tmp 3), (some (some 18, true))⟩,
    ⟨(some 21), .binOp .sub 3 (.tmp 20) (.const (.int .i64 1)) 3, (some (some 18, true))⟩,
    ⟨(some 22), .indexAddr 34 (.tmp 19) (.tmp 21), (some (some 18, true))⟩,
    ⟨(some 23), .fieldAddr 26 (.tmp 22) 0, (some (some 18, true))⟩,
    ⟨(some 24), .load 3 (.tmp 23), (some (some 18, true))⟩,
    ⟨(some 25), .fieldAddr 26 (.tmp 4) 0, (some (some 18, true))⟩,
    ⟨(some 26), .load 3 (.tmp 25), (some (some 18, true))⟩,
    ⟨(some 27), .binOp .geq 3 (.tmp 24) (.tmp 26) 3, (some (some 18, true))⟩,
    ⟨(some 28), .pick (.tmp 18) (.tmp 27) (.const (.bool false)), (some (some 15, false))⟩,
    ⟨(some 29), .pick (.tmp 15) (.const (.bool true)) (.tmp 28), none⟩] [0, 5, 6, 7, 29])
  (.cond (.tmp 29) (.seq (.reg [⟨(some 2), .assign (.const (.bool false)), none⟩] [2])
  .ret)
  .skip))))
  (.reg [⟨(some 30), .binOp .add 3 (.tmp 7) (.const (.int .i64 1)) 3, none⟩,
    ⟨(some 7), .move (.tmp 30), none⟩] [0, 5, 6, 7]))))
/-- loop.example/g01062/impl.arePostmarks: number 64, params [0] -/
def impl_arePostmarks_c : ACode := (.seq (.reg [⟨(some 2), .assign (.const (.bool false)), none⟩] [0])
  (.seq (.seq (.reg [⟨(some 5), .move (.tmp 0), none⟩,
    ⟨(some 6), .call ⟨.builtin .len, #[(.tmp 5)], #[34]⟩, none⟩,
    ⟨(some 7), .move (.const (.int .i64 0)), none⟩] [0, 5, 6, 7])
  (.block 0 (.loop impl_arePostmarks_l0)))
  (.seq (.reg [⟨(some 31), .move (.tmp 0), none⟩,
    ⟨(some 32), .call ⟨.builtin .len, #[(.tmp 31)], #[34]⟩, none⟩,
    ⟨(some 33), .binOp .leq 3 (.tmp 32) (.const (.int .i64 12)) 3, none⟩,
    ⟨(some 2), .assign (.tmp 33), none⟩] [2])
  .ret)))
theorem impl_arePostmarks_k : fnOk Tryd.prog (fun _ => false) 64 = some (impl_arePostmarks_c.strip, 34, [.tmp 2]) := by kernel_rfl
/-- loop.example/g01062/laws.eqPostmark: number 65, params [0, 1] -/
def laws_eqPostmark_c : ACode := (.seq (.reg [⟨(some 2), .box 26 (.tmp 0), none⟩,
    ⟨(some 3), .box 26 (.tmp 1), none⟩,
    ⟨(some 4), .assign (.const (.bool false)), none⟩] [2, 3])
  (.seq (.seq (.reg [⟨(some 5), .fieldAddr 26 (.tmp 2) 0, none⟩,
    ⟨(some 6), .load 3 (.tmp 5), none⟩,
    ⟨(some 7), .fieldAddr 26 (.tmp 3) 0, none⟩,
    ⟨(some 8), .load 3 (.tmp 7), none⟩,
    ⟨(some 9), .binOp .neq 3 (.tmp 6) (.tmp 8) 3, none⟩] [2, 3, 9])
  (.cond (.tmp 9) (.seq (.reg [⟨(some 4), .assign (.const (.bool false)), none⟩] [4])
  .ret)
  .skip))
  (.seq (.seq (.reg [⟨(some 10), .fieldAddr 26 (.tmp 2) 1, none⟩,
    ⟨(some 11), .load 9 (.tmp 10), none⟩,
    ⟨(some 12), .fieldAddr 26 (.tmp 3) 1, none⟩,
    ⟨(some 13), .load 9 (.tmp 12), none⟩,
    ⟨(some 14), .binOp .neq 9 (.tmp 11) (.tmp 13) 9, none⟩] [2, 3, 14])
  (.cond (.tmp 14) (.seq (.reg [⟨(some 4), .assign (.const (.bool false)), none⟩] [4])
  .ret)
  .skip))
  (.seq (.seq (.reg [⟨(some 15), .fieldAddr 26 (.tmp 2) 2, none⟩,
    ⟨(some 16), .load 3 (.tmp 15), none⟩,
    ⟨(some 17), .fieldAddr 26 (.tmp 3) 2, none⟩,
    ⟨(some 18), .load 3 (.tmp 17), none⟩,
    ⟨(some 19), .binOp .neq 3 (.tmp 16) (.tmp 18) 3, none⟩] [2, 3, 19])
  (.cond (.tmp 19) (.seq (.reg [⟨(some 4), .assign (.const (.bool false)), none⟩] [4])
  .ret)
  .skip))
  (.seq (.seq (.reg [⟨(some 20), .fieldAddr 26 (.tmp 2) 3, none⟩,
    ⟨(some 21), .load 3 (.tmp 20), none⟩,
    ⟨(some 22), .fieldAddr 26 (.tmp 3) 3, none⟩,
    ⟨(some 23), .load 3 (.tmp 22), none⟩,
    ⟨(some 24), .binOp .neq 3 (.tmp 21) (.tmp 23) 3, none⟩] [2, 3, 24])
  (.cond (.tmp 24) (.seq (.reg [⟨(some 4), .assign (.const (.bool false)), none⟩] [4])
  .ret)
  .skip))
  (.seq (.seq (.reg [⟨(some 25), .fieldAddr 26 (.tmp 2) 4, none⟩,
    ⟨(some 26), .load 3 (.tmp 25), none⟩,
    ⟨(some 27), .fieldAddr 26 (.tmp 3) 4, none⟩,
    ⟨(some 28), .load 3 (.tmp 27), none⟩,
    ⟨(some 29), .binOp .neq 3 (.tmp 26) (.tmp 28) 3, none⟩] [2, 3, 29])
  (.cond (.tmp 29) (.seq (.reg [⟨(some 4), .assign (.const (.bool false)), none⟩] [4])
  .ret)
  .skip))
  (.seq (.seq (.reg [⟨(some 30), .fieldAddr 26 (.tmp 2) 5, none⟩,
    ⟨(some 31), .load 9 (.tmp 30), none⟩,
    ⟨(some 32), .fieldAddr 26 (.tmp 3) 5, none⟩,
    ⟨(some 33), .load 9 (.tmp 32), none⟩,
    ⟨(some 34), .binOp .neq 9 (.tmp 31) (.tmp 33) 9, none⟩] [34])
  (.cond (.tmp 34) (.seq (.reg [⟨(some 4), .assign (.const (.bool false)), none⟩] [4])
  .ret)
  .skip))
  (.seq (.reg [⟨(some 4), .assign (.const (.bool true)), none⟩] [4])
  .ret))))))))
theorem laws_eqPostmark_k : fnOk Tryd.prog (fun _ => false) 65 = some (laws_eqPostmark_c.strip, 35, [.tmp 4]) := by kernel_rfl
/-- head: [0, 3] -/
def spec_l2Word_l0 : ACode := (.seq (.seq (.reg [⟨(some 4), .move (.tmp 3), none⟩,
    ⟨(some 5), .move (.tmp 0), none⟩,
    ⟨(some 6), .call ⟨.builtin .len, #[(.tmp 5)], #[9]⟩, none⟩,
    ⟨(some 7), .binOp .lss 3 (.tmp 4) (.tmp 6) 3, none⟩] [0, 3, 7])
  (.cond (.tmp 7) .skip
  (.exit 0)))
  (.seq (.block 1 (.seq (.reg [⟨(some 10), .move (.tmp 0), none⟩,
    ⟨(some 11), .move (.tmp 3), none⟩,
    ⟨(some 12), .index 9 (.tmp 10) (.tmp 11), none⟩,
    ⟨(some 13), .binOp .lss 5 (.tmp 12) (.const (.int .u8 97)) 5, none⟩,
    ⟨(some 14), .move (.tmp 13), none⟩,
    ⟨(some 15), .move (.tmp 0), (some (some 14, false))⟩,
    ⟨(some 16), .move (.tmp 3), (some (some 14, false))⟩,
    ⟨(some 17), .index 9 (.tmp 15) (.tmp 16), (some (some 14, false))⟩,
    ⟨(some 18), .binOp .gtr 5 (.tmp 17) (.const (.int .u8 122)) 5, (some (some 14, false))⟩,
    ⟨(some 19), .pick (.tmp 14) (.const (.bool true)) (.tmp 18), none⟩] [0, 3, 19])
  (.cond (.tmp 19) (.seq (.reg [⟨(some 2), .assign (.const (.bool false)), none⟩] [2])
  .ret)
  .skip)))
  (.reg [⟨(some 8), .move (.tmp 3), none⟩,
    ⟨(some 9), .binOp .add 3 (.tmp 8) (.const (.int .i64 1)) 3, none⟩,
    ⟨(some 3), .assign (.tmp 9), none⟩] [0, 3])))
/-- loop.example/g01062/spec.l2Word: number 66, params [0] -/
def spec_l2Word_c : ACode := (.seq (.reg [⟨(some 2), .assign (.const (.bool false)), none⟩] [0])
  (.seq (.seq (.reg [⟨(some 3), .assign (.const (.int .i64 0)), none⟩] [0, 3])
  (.block 0 (.loop spec_l2Word_l0)))
  (.seq (.reg [⟨(some 20), .move (.tmp 0), none⟩,
    ⟨(some 21), .call ⟨.builtin .len, #[(.tmp 20)], #[9]⟩, none⟩,
    ⟨(some 22), .call ⟨.value (.func 75), #[(.tmp 21), (.const (.int .i64 1)), (.const (.int .i64 10))], #[3, 3, 3]⟩, none⟩,
    ⟨(some 2), .assign (.tmp 22), none⟩] [2])
  .ret)))
theorem spec_l2Word_k : fnOk Tryd.prog (fun _ => false) 66 = some (spec_l2Word_c.strip, 23, [.tmp 2]) := by kernel_rfl
/-- head: [0, 5, 6] -/
def impl_isWord_l0 : ACode := (.seq (.reg [⟨(some 7), .binOp .lss 3 (.tmp 6) (.tmp 5) 3, none⟩] [0, 5, 6, 7])
  (.seq (.cond (.tmp 7) .skip
  (.exit 0))
  (.seq (.block 1 (.seq (.reg [⟨(some 8), .move (.tmp 6), none⟩,
    ⟨(some 3), .assign (.tmp 8), none⟩] [0, 3, 5, 6])
  (.seq (.reg [⟨(some 9), .move (.tmp 0), none⟩,
    ⟨(some 10), .move (.tmp 3), none⟩,
    ⟨(some 11), .index 9 (.tmp 9) (.tmp 10), none⟩,
    ⟨(some 12), .binOp .lss 5 (.tmp 11) (.const (.int .u8 97)) 5, none⟩,
    ⟨(some 13), .move (.tmp 12), none⟩,
    ⟨(some 14), .move (.tmp 0), (some (some 13, false))⟩,
    ⟨(some 15), .move (.tmp 3), (some (some 13, false))⟩,
    ⟨(some 16), .index 9 (.tmp 14) (.tmp 15), (some (some 13, false))⟩,
    ⟨(some 17), .binOp .gtr 5 (.tmp 16) (.const (.int .u8 122)) 5, (some (some 13, false))⟩,
    ⟨(some 18), .pick (.tmp 13) (.const (.bool true)) (.tmp 17), none⟩] [0, 5, 6, 18])
  (.cond (.tmp 18) (.seq (.reg [⟨(some 2), .assign (.const (.bool false)), none⟩] [2])
  .ret)
  .skip))))
  (.reg [⟨(some 19), .binOp .add 3 (.tmp 6) (.const (.int .i64 1)) 3, none⟩,
    ⟨(some 6), .move (.tmp 19), none⟩] [0, 5, 6]))))
/-- loop.example/g01062/impl.isWord: number 67, params [0] -/
def impl_isWord_c : ACode := (.seq (.reg [⟨(some 2), .assign (.const (.bool false)), none⟩] [0])
  (.seq (.seq (.reg [⟨(some 4), .move (.tmp 0), none⟩,
    ⟨(some 5), .call ⟨.builtin .len, #[(.tmp 4)], #[9]⟩, none⟩,
    ⟨(some 6), .move (.const (.int .i64 0)), none⟩] [0, 5, 6])
  (.block 0 (.loop impl_isWord_l0)))
  (.seq (.reg [⟨(some 20), .move (.tmp 0), none⟩,
    ⟨(some 21), .call ⟨.builtin .len, #[(.tmp 20)], #[9]⟩, none⟩,
    ⟨(some 22), .call ⟨.value (.func 76), #[(.tmp 21), (.const (.int .i64 1)), (.const (.int .i64 10))], #[3, 3, 3]⟩, none⟩,
    ⟨(some 2), .assign (.tmp 22), none⟩] [2])
  .ret)))
theorem impl_isWord_k : fnOk Tryd.prog (fun _ => false) 67 = some (impl_isWord_c.strip, 23, [.tmp 2]) := by kernel_rfl
/-- loop.example/g01062/spec.l1Least: number 68, params [0, 1] -/
def spec_l1Least_c : ACode := (.seq (.reg [⟨(some 4), .assign (.const (.int .i64 0)), none⟩] [0, 1])
  (.seq (.seq (.reg [⟨(some 5), .move (.tmp 0), none⟩,
    ⟨(some 6), .move (.tmp 1), none⟩,
    ⟨(some 7), .binOp .lss 3 (.tmp 5) (.tmp 6) 3, none⟩] [0, 1, 7])
  (.cond (.tmp 7) (.seq (.reg [⟨(some 8), .move (.tmp 0), none⟩,
    ⟨(some 4), .assign (.tmp 8), none⟩] [4])
  .ret)
  .skip))
  (.seq (.reg [⟨(some 9), .move (.tmp 1), none⟩,
    ⟨(some 4), .assign (.tmp 9), none⟩] [4])
  .ret)))
theorem spec_l1Least_k : fnOk Tryd.prog (fun _ => false) 68 = some (spec_l1Least_c.strip, 10, [.tmp 4]) := by kernel_rfl
/-- loop.example/g01062/spec.l1Most: number 69, params [0, 1] -/
def spec_l1Most_c : ACode := (.seq (.reg [⟨(some 4), .assign (.const (.int .i64 0)), none⟩] [0, 1])
  (.seq (.seq (.reg [⟨(some 5), .move (.tmp 0), none⟩,
    ⟨(some 6), .move (.tmp 1), none⟩,
    ⟨(some 7), .binOp .gtr 3 (.tmp 5) (.tmp 6) 3, none⟩] [0, 1, 7])
  (.cond (.tmp 7) (.seq (.reg [⟨(some 8), .move (.tmp 0), none⟩,
    ⟨(some 4), .assign (.tmp 8), none⟩] [4])
  .ret)
  .skip))
  (.seq (.reg [⟨(some 9), .move (.tmp 1), none⟩,
    ⟨(some 4), .assign (.tmp 9), none⟩] [4])
  .ret)))
theorem spec_l1Most_k : fnOk Tryd.prog (fun _ => false) 69 = some (spec_l1Most_c.strip, 10, [.tmp 4]) := by kernel_rfl
/-- loop.example/g01062/spec.l11Used: number 70, params [0, 1] -/
def spec_l11Used_c : ACode := (.seq (.reg [⟨(some 2), .box 26 (.tmp 0), none⟩,
    ⟨(some 4), .assign (.const (.bool false)), none⟩] [1, 2])
  (.seq (.reg [⟨(some 5), .move (.tmp 1), none⟩,
    ⟨(some 6), .fieldAddr 26 (.tmp 2) 3, none⟩,
    ⟨(some 7), .load 3 (.tmp 6), none⟩,
    ⟨(some 8), .fieldAddr 26 (.tmp 2) 4, none⟩,
    ⟨(some 9), .load 3 (.tmp 8), none⟩,
    ⟨(some 10), .call ⟨.value (.func 75), #[(.tmp 5), (.tmp 7), (.tmp 9)], #[3, 3, 3]⟩, none⟩,
    ⟨(some 4), .assign (.tmp 10), none⟩] [4])
  .ret))
theorem spec_l11Used_k : fnOk Tryd.prog (fun _ => false) 70 = some (spec_l11Used_c.strip, 11, [.tmp 4]) := by kernel_rfl
/-- head: [0, 1, 5] -/
def spec_l11Find_l0 : ACode := (.seq (.seq (.reg [⟨(some 6), .move (.tmp 5), none⟩,
    ⟨(some 7), .move (.tmp 0), none⟩,
    ⟨(some 8), .call ⟨.builtin .len, #[(.tmp 7)], #[34]⟩, none⟩,
    ⟨(some 9), .binOp .lss 3 (.tmp 6) (.tmp 8) 3, none⟩] [0, 1, 5, 9])
  (.cond (.tmp 9) .skip
  (.exit 0)))
  (.seq (.block 1 (.seq (.reg [⟨(some 12), .move (.tmp 0), none⟩,
    ⟨(some 13), .move (.tmp 5), none⟩,
    ⟨(some 14), .indexAddr 34 (.tmp 12) (.tmp 13), none⟩,
    ⟨(some 15), .fieldAddr 26 (.tmp 14) 0, none⟩,
    ⟨(some 16), .load 3 (.tmp 15), none⟩,
    ⟨(some 17), .move (.tmp 1), none⟩,
    ⟨(some 18), .binOp .eql 3 (.tmp 16) (.tmp 17) 3, none⟩] [0, 1, 5, 18])
  (.cond (.tmp 18) (.seq (.reg [⟨(some 19), .move (.tmp 5), none⟩,
    ⟨(some 4), .assign (.tmp 19), none⟩] [4])
  .ret)
  .skip)))
  (.reg [⟨(some 10), .move (.tmp 5), none⟩,
    ⟨(some 11), .binOp .add 3 (.tmp 10) (.const (.int .i64 1)) 3, none⟩,
    ⟨(some 5), .assign (.tmp 11), none⟩] [0, 1, 5])))
/-- loop.example/g01062/spec.l11Find: number 71, params [0, 1] -/
def spec_l11Find_c : ACode := (.seq (.reg [⟨(some 4), .assign (.const (.int .i64 0)), none⟩] [0, 1])
  (.seq (.seq (.reg [⟨(some 5), .assign (.const (.int .i64 0)), none⟩] [0, 1, 5])
  (.block 0 (.loop spec_l11Find_l0)))
  (.seq (.reg [⟨(some 4), .assign (.const (.int .i64 (-1))), none⟩] [4])
  .ret)))
theorem spec_l11Find_k : fnOk Tryd.prog (fun _ => false) 71 = some (spec_l11Find_c.strip, 20, [.tmp 4]) := by kernel_rfl
/-- head: [0, 1, 5] -/
def spec_l11Reads_l0 : ACode := (.seq (.seq (.reg [⟨(some 11), .move (.tmp 5), none⟩,
    ⟨(some 12), .move (.tmp 0), none⟩,
    ⟨(some 13), .call ⟨.builtin .len, #[(.tmp 12)], #[9]⟩, none⟩,
    ⟨(some 14), .binOp .lss 3 (.tmp 11) (.tmp 13) 3, none⟩] [0, 1, 5, 14])
  (.cond (.tmp 14) .skip
  (.exit 0)))
  (.seq (.block 1 (.seq (.regQ [⟨(some 17), .move (.tmp 0), none⟩,
    ⟨(some 18), .move (.tmp 5), none⟩,
    ⟨(some 19), .index 9 (.tmp 17) (.tmp 18), none⟩,
    ⟨(some 20), .move (.tmp 1), none⟩,
    ⟨(some 21), .move (.tmp 5), none⟩,
    ⟨(some 22), .index 9 (.tmp 20) (.tmp 21), none⟩,
    ⟨(some 23), .binOp .neq 5 (.tmp 19) (.tmp 22) 5, none⟩,
    ⟨(some 24), .move (.tmp 23), none⟩,
    ⟨(some 25), .move (.tmp 0), (some (some 24, true))⟩,
    ⟨(some 26), .move (.tmp 5), (some (some 24, true))⟩,
    ⟨(some 27), .index 9 (.tmp 25) (.tmp 26), (some (some 24, true))⟩,
    ⟨(some 28), .binOp .neq 5 (.tmp 27) (.const (.int .u8 63)) 5, (some (some 24, true))⟩,
    ⟨(some 29), .pick (.tmp 24) (.tmp 28) (.const (.bool false)), none⟩,
    ⟨(some 30), .move (.tmp 29), none⟩,
    ⟨(some 31), .move (.tmp 1), (some (some 30, true))⟩,
    ⟨(some 32), .move (.tmp 5), (some (some 30, true))⟩,
    ⟨(some 33), .index 9 (.tmp 31) (.tmp 32), (some (some 30, true))⟩,
    ⟨(some 34), .binOp .neq 5 (.tmp 33) (.const (.int .u8 63)) 5, (some (some 30, true))⟩,
    ⟨(some 35), .pick (.tmp 30) (.tmp 34) (.const (.bool false)), none⟩] [0, 1, 5, 35])
  (.cond (.tmp 35) (.seq (.reg [⟨(some 4), .assign (.const (.bool false)), none⟩] [4])
  .ret)
  .skip)))
  (.reg [⟨(some 15), .move (.tmp 5), none⟩,
    ⟨(some 16), .binOp .add 3 (.tmp 15) (.const (.int .i64 1)) 3, none⟩,
    ⟨(some 5), .assign (.tmp 16), none⟩] [0, 1, 5])))
/-- loop.example/g01062/spec.l11Reads: number 72, params [0, 1] -/
def spec_l11Reads_c : ACode := (.seq (.reg [⟨(some 4), .assign (.const (.bool false)), none⟩] [0, 1])
  (.seq (.seq (.reg [⟨(some 6), .move (.tmp 0), none⟩,
    ⟨(some 7), .call ⟨.builtin .len, #[(.tmp 6)], #[9]⟩, none⟩,
    ⟨(some 8), .move (.tmp 1), none⟩,
    ⟨(some 9), .call ⟨.builtin .len, #[(.tmp 8)], #[9]⟩, none⟩,
    ⟨(some 10), .binOp .neq 3 (.tmp 7) (.tmp 9) 3, none⟩] [0, 1, 10])
  (.cond (.tmp 10) (.seq (.reg [⟨(some 4), .assign (.const (.bool false)), none⟩] [4])
  .ret)
  .skip))
  (.seq (.seq (.reg [⟨(some 5), .assign (.const (.int .i64 0)), none⟩] [0, 1, 5])
  (.block 0 (.loop spec_l11Reads_l0)))
  (.seq (.reg [⟨(some 4), .assign (.const (.bool true)), none⟩] [4])
  .ret))))
theorem spec_l11Reads_k : fnOk Tryd.prog (fun _ => false) 72 = some (spec_l11Reads_c.strip, 36, [.tmp 4]) := by kernel_rfl
/-- loop.example/g01062/impl.postmarkAt: number 73, params [0, 1] -/
def impl_postmarkAt_c : ACode := (.seq (.reg [⟨(some 3), .box 3 (.tmp 1), none⟩,
    ⟨(some 4), .assign (.const (.int .i64 0)), none⟩] [0, 3])
  (.seq (.reg [⟨(some 5), .move (.tmp 0), none⟩,
    ⟨(some 6), .makeFunc (.func 99) #[] #[(.tmp 3)], none⟩,
    ⟨(some 7), .call ⟨.value (.func 98), #[(.tmp 5), (.tmp 6)], #[34, 25]⟩, none⟩,
    ⟨(some 4), .assign (.tmp 7), none⟩] [4])
  .ret))
theorem impl_postmarkAt_k : fnOk Tryd.prog (fun _ => false) 73 = some (impl_postmarkAt_c.strip, 8, [.tmp 4]) := by kernel_rfl
/-- head: [0, 1, 12, 13] -/
def impl_readsAs_l0 : ACode := (.seq (.reg [⟨(some 14), .binOp .lss 3 (.tmp 13) (.tmp 12) 3, none⟩] [0, 1, 12, 13, 14])
  (.seq (.cond (.tmp 14) .skip
  (.exit 0))
  (.seq (.block 1 (.seq (.reg [⟨(some 15), .move (.tmp 13), none⟩,
    ⟨(some 5), .assign (.tmp 15), none⟩] [0, 1, 5, 12, 13])
  (.seq (.regQ [⟨(some 16), .move (.tmp 0), none⟩,
    ⟨(some 17), .move (.tmp 5), none⟩,
    ⟨(some 18), .index 9 (.tmp 16) (.tmp 17), none⟩,
    ⟨(some 19), .move (.tmp 1), none⟩,
    ⟨(some 20), .move (.tmp 5), none⟩,
    ⟨(some 21), .index 9 (.tmp 19) (.tmp 20), none⟩,
    ⟨(some 22), .binOp .neq 5 (.tmp 18) (.tmp 21) 5, none⟩,
    ⟨(some 23), .move (.tmp 22), none⟩,
    ⟨(some 24), .move (.tmp 0), (some (some 23, true))⟩,
    ⟨(some 25), .move (.tmp 5), (some (some 23, true))⟩,
    ⟨(some 26), .index 9 (.tmp 24) (.tmp 25), (some (some 23, true))⟩,
    ⟨(some 27), .binOp .neq 5 (.tmp 26) (.const (.int .u8 63)) 5, (some (some 23, true))⟩,
    ⟨(some 28), .pick (.tmp 23) (.tmp 27) (.const (.bool false)), none⟩,
    ⟨(some 29), .move (.tmp 28), none⟩,
    ⟨(some 30), .move (.tmp 1), (some (some 29, true))⟩,
    ⟨(some 31), .move (.tmp 5), (some (some 29, true))⟩,
    ⟨(some 32), .index 9 (.tmp 30) (.tmp 31), (some (some 29, true))⟩,
    ⟨(some 33), .binOp .neq 5 (.tmp 32) (.const (.int .u8 63)) 5, (some (some 29, true))⟩,
    ⟨(some 34), .pick (.tmp 29) (.tmp 33) (.const (.bool false)), none⟩] [0, 1, 12, 13, 34])
  (.cond (.tmp 34) (.seq (.reg [⟨(some 4), .assign (.const (.bool false)), none⟩] [4])
  .ret)
  .skip))))
  (.reg [⟨(some 35), .binOp .add 3 (.tmp 13) (.const (.int .i64 1)) 3, none⟩,
    ⟨(some 13), .move (.tmp 35), none⟩] [0, 1, 12, 13]))))
/-- loop.example/g01062/impl.readsAs: number 74, params [0, 1] -/
def impl_readsAs_c : ACode := (.seq (.reg [⟨(some 4), .assign (.const (.bool false)), none⟩] [0, 1])
  (.seq (.seq (.reg [⟨(some 6), .move (.tmp 0), none⟩,
    ⟨(some 7), .call ⟨.builtin .len, #[(.tmp 6)], #[9]⟩, none⟩,
    ⟨(some 8), .move (.tmp 1), none⟩,
    ⟨(some 9), .call ⟨.builtin .len, #[(.tmp 8)], #[9]⟩, none⟩,
    ⟨(some 10), .binOp .neq 3 (.tmp 7) (.tmp 9) 3, none⟩] [0, 1, 10])
  (.cond (.tmp 10) (.seq (.reg [⟨(some 4), .assign (.const (.bool false)), none⟩] [4])
  .ret)
  .skip))
  (.seq (.seq (.reg [⟨(some 11), .move (.tmp 0), none⟩,
    ⟨(some 12), .call ⟨.builtin .len, #[(.tmp 11)], #[9]⟩, none⟩,
    ⟨(some 13), .move (.const (.int .i64 0)), none⟩] [0, 1, 12, 13])
  (.block 0 (.loop impl_readsAs_l0)))
  (.seq (.reg [⟨(some 4), .assign (.const (.bool true)), none⟩] [4])
  .ret))))
theorem impl_readsAs_k : fnOk Tryd.prog (fun _ => false) 74 = some (impl_readsAs_c.strip, 36, [.tmp 4]) := by kernel_rfl
/-- loop.example/g01062/spec.l1In: number 75, params [0, 1, 2] -/
def spec_l1In_c : ACode := (.seq (.reg [⟨(some 6), .assign (.const (.bool false)), none⟩] [0, 1, 2])
  (.seq (.reg [⟨(some 7), .move (.tmp 0), none⟩,
    ⟨(some 8), .move (.tmp 1), none⟩,
    ⟨(some 9), .binOp .geq 3 (.tmp 7) (.tmp 8) 3, none⟩,
    ⟨(some 10), .move (.tmp 9), none⟩,
    ⟨(some 11), .move (.tmp 0), (some (some 10, true))⟩,
    ⟨(some 12), .move (.tmp 2), (some (some 10, true))⟩,
    ⟨(some 13), .binOp .leq 3 (.tmp 11) (.tmp 12) 3, (some (some 10, true))⟩,
    ⟨(some 14), .pick (.tmp 10) (.tmp 13) (.const (.bool false)), none⟩,
    ⟨(some 6), .assign (.tmp 14), none⟩] [6])
  .ret))
theorem spec_l1In_k : fnOk Tryd.prog (fun _ => false) 75 = some (spec_l1In_c.strip, 15, [.tmp 6]) := by kernel_rfl
/-- loop.example/g01062/impl.inRange: number 76, params [0, 1, 2] -/
def impl_inRange_c : ACode := (.seq (.reg [⟨(some 6), .assign (.const (.bool false)), none⟩] [0, 1, 2])
  (.seq (.reg [⟨(some 7), .move (.tmp 0), none⟩,
    ⟨(some 8), .move (.tmp 1), none⟩,
    ⟨(some 9), .binOp .geq 3 (.tmp 7) (.tmp 8) 3, none⟩,
    ⟨(some 10), .move (.tmp 9), none⟩,
    ⟨(some 11), .move (.tmp 0), (some (some 10, true))⟩,
    ⟨(some 12), .move (.tmp 2), (some (some 10, true))⟩,
    ⟨(some 13), .binOp .leq 3 (.tmp 11) (.tmp 12) 3, (some (some 10, true))⟩,
    ⟨(some 14), .pick (.tmp 10) (.tmp 13) (.const (.bool false)), none⟩,
    ⟨(some 6), .assign (.tmp 14), none⟩] [6])
  .ret))
theorem impl_inRange_k : fnOk Tryd.prog (fun _ => false) 76 = some (impl_inRange_c.strip, 15, [.tmp 6]) := by kernel_rfl
/-- slices.Clone[[]loop.example/g01062/impl.Postmark,loop.example/g01062/impl.Postmark]: number 77, params [0] -/
def slices_Clone___impl_Postmark_impl_Postmark__c : ACode := (.seq (.reg [⟨(some 2), .assign (.const (.slice none 0 0)), none⟩] [0])
  (.seq (.seq (.reg [⟨(some 3), .move (.tmp 0), none⟩,
    ⟨(some 4), .binOp .eql 34 (.tmp 3) (.const (.slice none 0 0)) 34, none⟩] [0, 4])
  (.cond (.tmp 4) (.seq (.reg [⟨(some 2), .assign (.const (.slice none 0 0)), none⟩] [2])
  .ret)
  .skip))
  (.seq (.reg [⟨(some 5), .buildSlice 34 0 #[], none⟩,
    ⟨(some 6), .move (.tmp 0), none⟩,
    ⟨(some 7), .call ⟨.builtin .append, #[(.tmp 5), (.tmp 6)], #[34, 34]⟩, none⟩,
    ⟨(some 2), .assign (.tmp 7), none⟩] [2])
  .ret)))
theorem slices_Clone___impl_Postmark_impl_Postmark__k : fnOk Tryd.prog (fun _ => false) 77 = some (slices_Clone___impl_Postmark_impl_Postmark__c.strip, 8, [.tmp 2]) := by kernel_rfl
/-- head: [0, 3] -/
def laws_markText_l0 : ACode := (.seq (.seq (.reg [⟨(some 6), .move (.tmp 0), none⟩,
    ⟨(some 7), .binOp .gtr 3 (.tmp 6) (.const (.int .i64 0)) 3, none⟩] [0, 3, 7])
  (.cond (.tmp 7) .skip
  (.exit 0)))
  (.block 1 (.seq (.reg [⟨(some 8), .move (.tmp 0), none⟩,
    ⟨(some 9), .binOp .rem 3 (.tmp 8) (.const (.int .i64 10)) 3, none⟩,
    ⟨(some 10), .binOp .add 3 (.const (.int .i64 48)) (.tmp 9) 3, none⟩,
    ⟨(some 11), .convert 3 5 (.tmp 10), none⟩,
    ⟨(some 12), .buildSlice 63 1 #[(0, (.tmp 11))], none⟩,
    ⟨(some 13), .convert 63 9 (.tmp 12), none⟩,
    ⟨(some 14), .move (.tmp 3), none⟩,
    ⟨(some 15), .binOp .add 9 (.tmp 13) (.tmp 14) 9, none⟩,
    ⟨(some 3), .assign (.tmp 15), none⟩] [0, 3])
  (.reg [⟨(some 16), .move (.tmp 0), none⟩,
    ⟨(some 17), .binOp .quo 3 (.tmp 16) (.const (.int .i64 10)) 3, none⟩,
    ⟨(some 0), .assign (.tmp 17), none⟩] [0, 3]))))
/-- loop.example/g01062/laws.markText: number 78, params [0] -/
def laws_markText_c : ACode := (.seq (.reg [⟨(some 2), .assign (.const (.string ⟨#[]⟩)), none⟩] [0])
  (.seq (.seq (.reg [⟨(some 4), .move (.tmp 0), none⟩,
    ⟨(some 5), .binOp .leq 3 (.tmp 4) (.const (.int .i64 0)) 3, none⟩] [0, 5])
  (.cond (.tmp 5) (.seq (.reg [⟨(some 2), .assign (.const (.string ⟨#[109, 48]⟩)), none⟩] [2])
  .ret)
  .skip))
  (.seq (.reg [⟨(some 3), .assign (.const (.string ⟨#[]⟩)), none⟩] [0, 3])
  (.seq (.block 0 (.loop laws_markText_l0))
  (.seq (.reg [⟨(some 18), .move (.tmp 3), none⟩,
    ⟨(some 19), .binOp .add 9 (.const (.string ⟨#[109]⟩)) (.tmp 18) 9, none⟩,
    ⟨(some 2), .assign (.tmp 19), none⟩] [2])
  .ret)))))
theorem laws_markText_k : fnOk Tryd.prog (fun _ => false) 78 = some (laws_markText_c.strip, 20, [.tmp 2]) := by kernel_rfl
/-- loop.example/g01062/spec.l2Day: number 79, params [0] -/
def spec_l2Day_c : ACode := (.seq (.reg [⟨(some 2), .assign (.const (.bool false)), none⟩] [0])
  (.seq (.reg [⟨(some 3), .move (.tmp 0), none⟩,
    ⟨(some 4), .call ⟨.value (.func 75), #[(.tmp 3), (.const (.int .i64 0)), (.const (.int .i64 4000))], #[3, 3, 3]⟩, none⟩,
    ⟨(some 2), .assign (.tmp 4), none⟩] [2])
  .ret))
theorem spec_l2Day_k : fnOk Tryd.prog (fun _ => false) 79 = some (spec_l2Day_c.strip, 5, [.tmp 2]) := by kernel_rfl
/-- loop.example/g01062/impl.isDay: number 80, params [0] -/
def impl_isDay_c : ACode := (.seq (.reg [⟨(some 2), .assign (.const (.bool false)), none⟩] [0])
  (.seq (.reg [⟨(some 3), .move (.tmp 0), none⟩,
    ⟨(some 4), .call ⟨.value (.func 76), #[(.tmp 3), (.const (.int .i64 0)), (.const (.int .i64 4000))], #[3, 3, 3]⟩, none⟩,
    ⟨(some 2), .assign (.tmp 4), none⟩] [2])
  .ret))
theorem impl_isDay_k : fnOk Tryd.prog (fun _ => false) 80 = some (impl_isDay_c.strip, 5, [.tmp 2]) := by kernel_rfl
/-- loop.example/g01062/spec.l1Num: number 81, params [0] -/
def spec_l1Num_c : ACode := (.seq (.reg [⟨(some 2), .assign (.const (.string ⟨#[]⟩)), none⟩] [0])
  (.seq (.seq (.reg [⟨(some 3), .move (.tmp 0), none⟩,
    ⟨(some 4), .binOp .lss 3 (.tmp 3) (.const (.int .i64 0)) 3, none⟩] [0, 4])
  (.cond (.tmp 4) (.seq (.reg [⟨(some 5), .move (.tmp 0), none⟩,
    ⟨(some 6), .unOp .neg 3 (.tmp 5), none⟩,
    ⟨(some 7), .call ⟨.value (.func 81), #[(.tmp 6)], #[3]⟩, none⟩,
    ⟨(some 8), .binOp .add 9 (.const (.string ⟨#[45]⟩)) (.tmp 7) 9, none⟩,
    ⟨(some 2), .assign (.tmp 8), none⟩] [2])
  .ret)
  .skip))
  (.seq (.seq (.reg [⟨(some 9), .move (.tmp 0), none⟩,
    ⟨(some 10), .binOp .lss 3 (.tmp 9) (.const (.int .i64 10)) 3, none⟩] [0, 10])
  (.cond (.tmp 10) (.seq (.reg [⟨(some 11), .move (.tmp 0), none⟩,
    ⟨(some 12), .move (.tmp 0), none⟩,
    ⟨(some 13), .binOp .add 3 (.tmp 12) (.const (.int .i64 1)) 3, none⟩,
    ⟨(some 14), .slice 9 (.const (.string ⟨#[48, 49, 50, 51, 52, 53, 54, 55, 56, 57]⟩)) (some (.tmp 11)) (some (.tmp 13)) none, none⟩,
    ⟨(some 2), .assign (.tmp 14), none⟩] [2])
  .ret)
  .skip))
  (.seq (.regQ [⟨(some 15), .move (.tmp 0), none⟩,
    ⟨(some 16), .binOp .quo 3 (.tmp 15) (.const (.int .i64 10)) 3, none⟩,
    ⟨(some 17), .call ⟨.value (.func 81), #[(.tmp 16)], #[3]⟩, none⟩,
    ⟨(some 18), .move (.tmp 0), none⟩,
    ⟨(some 19), .binOp .rem 3 (.tmp 18) (.const (.int .i64 10)) 3, none⟩,
    ⟨(some 20), .move (.tmp 0), none⟩,
    ⟨(some 21), .binOp .rem 3 (.tmp 20) (.const (.int .i64 10)) 3, none⟩,
    ⟨(some 22), .binOp .add 3 (.tmp 21) (.const (.int .i64 1)) 3, none⟩,
    ⟨(some 23), .slice 9 (.const (.string ⟨#[48, 49, 50, 51, 52, 53, 54, 55, 56, 57]⟩)) (some (.tmp 19)) (some (.tmp 22)) none, none⟩,
    ⟨(some 24), .binOp .add 9 (.tmp 17) (.tmp 23) 9, none⟩,
    ⟨(some 2), .assign (.tmp 24), none⟩] [2])
  .ret))))
theorem spec_l1Num_k : fnOk Tryd.prog (fun _ => false) 81 = some (spec_l1Num_c.strip, 25, [.tmp 2]) := by kernel_rfl
/-- head: [0, 3] -/
def spec_l11Reading_l0 : ACode := (.seq (.seq (.reg [⟨(some 4), .move (.tmp 3), none⟩,
    ⟨(some 5), .move (.tmp 0), none⟩,
    ⟨(some 6), .call ⟨.builtin .len, #[(.tmp 5)], #[9]⟩, none⟩,
    ⟨(some 7), .binOp .lss 3 (.tmp 4) (.tmp 6) 3, none⟩,
    ⟨(some 8), .move (.tmp 7), none⟩,
    ⟨(some 9), .move (.tmp 3), (some (some 8, true))⟩,
    ⟨(some 10), .binOp .leq 3 (.tmp 9) (.const (.int .i64 10)) 3, (some (some 8, true))⟩,
    ⟨(some 11), .pick (.tmp 8) (.tmp 10) (.const (.bool false)), none⟩] [0, 3, 11])
  (.cond (.tmp 11) .skip
  (.exit 0)))
  (.seq (.block 1 (.seq (.reg [⟨(some 14), .move (.tmp 0), none⟩,
    ⟨(some 15), .move (.tmp 3), none⟩,
    ⟨(some 16), .index 9 (.tmp 14) (.tmp 15), none⟩,
    ⟨(some 17), .binOp .neq 5 (.tmp 16) (.const (.int .u8 63)) 5, none⟩,
    ⟨(some 18), .move (.tmp 17), none⟩,
    ⟨(some 19), .move (.tmp 0), (some (some 18, true))⟩,
    ⟨(some 20), .move (.tmp 3), (some (some 18, true))⟩,
    ⟨(some 21), .index 9 (.tmp 19) (.tmp 20), (some (some 18, true))⟩,
    ⟨(some 22), .binOp .lss 5 (.tmp 21) (.const (.int .u8 97)) 5, (some (some 18, true))⟩,
    ⟨(some 23), .move (.tmp 22), (some (some 18, true))⟩,
    ⟨(some 24), .move (.tmp 0), (some (some 23, false))⟩,
    ⟨(some 25), .move (.tmp 3), (some (some 23, false))⟩,
    ⟨(some 26), .index 9 (.tmp 24) (.tmp 25), (some (some 23, false))⟩,
    ⟨(some 27), .binOp .gtr 5 (.tmp 26) (.const (.int .u8 122)) 5, (some (some 23, false))⟩,
    ⟨(some 28), .pick (.tmp 23) (.const (.bool true)) (.tmp 27), (some (some 18, true))⟩,
    ⟨(some 29), .pick (.tmp 18) (.tmp 28) (.const (.bool false)), none⟩] [0, 3, 29])
  (.cond (.tmp 29) (.seq (.reg [⟨(some 2), .assign (.const (.bool false)), none⟩] [2])
  .ret)
  .skip)))
  (.reg [⟨(some 12), .move (.tmp 3), none⟩,
    ⟨(some 13), .binOp .add 3 (.tmp 12) (.const (.int .i64 1)) 3, none⟩,
    ⟨(some 3), .assign (.tmp 13), none⟩] [0, 3])))
/-- loop.example/g01062/spec.l11Reading: number 83, params [0] -/
def spec_l11Reading_c : ACode := (.seq (.reg [⟨(some 2), .assign (.const (.bool false)), none⟩] [0])
  (.seq (.seq (.reg [⟨(some 3), .assign (.const (.int .i64 0)), none⟩] [0, 3])
  (.block 0 (.loop spec_l11Reading_l0)))
  (.seq (.reg [⟨(some 30), .move (.tmp 0), none⟩,
    ⟨(some 31), .call ⟨.builtin .len, #[(.tmp 30)], #[9]⟩, none⟩,
    ⟨(some 32), .call ⟨.value (.func 75), #[(.tmp 31), (.const (.int .i64 1)), (.const (.int .i64 10))], #[3, 3, 3]⟩, none⟩,
    ⟨(some 2), .assign (.tmp 32), none⟩] [2])
  .ret)))
theorem spec_l11Reading_k : fnOk Tryd.prog (fun _ => false) 83 = some (spec_l11Reading_c.strip, 33, [.tmp 2]) := by kernel_rfl
/-- loop.example/g01062/impl.isReading: number 84, params [0] -/
def impl_isReading_c : ACode := (.seq (.reg [⟨(some 2), .assign (.const (.bool false)), none⟩] [0])
  (.seq (.reg [⟨(some 3), .move (.tmp 0), none⟩,
    ⟨(some 4), .call ⟨.value (.func 101), #[(.tmp 3), (.const (.string ⟨#[63]⟩)), (.const (.string ⟨#[97]⟩))], #[9, 9, 9]⟩, none⟩,
    ⟨(some 5), .call ⟨.value (.func 67), #[(.tmp 4)], #[9]⟩, none⟩,
    ⟨(some 2), .assign (.tmp 5), none⟩] [2])
  .ret))
theorem impl_isReading_k : fnOk Tryd.prog (fun _ => false) 84 = some (impl_isReading_c.strip, 6, [.tmp 2]) := by kernel_rfl
/-- head: [0, 1, 7, 8] -/
def slices_IndexFunc___impl_Postmark_impl_Postmark__l0 : ACode := (.seq (.reg [⟨(some 9), .binOp .lss 3 (.tmp 8) (.tmp 7) 3, none⟩] [0, 1, 7, 8, 9])
  (.seq (.cond (.tmp 9) .skip
  (.exit 0))
  (.seq (.block 1 (.seq (.reg [⟨(some 10), .move (.tmp 8), none⟩,
    ⟨(some 5), .assign (.tmp 10), none⟩] [0, 1, 5, 7, 8])
  (.seq (.reg [⟨(some 11), .move (.tmp 1), none⟩,
    ⟨(some 12), .move (.tmp 0), none⟩,
    ⟨(some 13), .move (.tmp 5), none⟩,
    ⟨(some 14), .indexAddr 34 (.tmp 12) (.tmp 13), none⟩,
    ⟨(some 15), .load 26 (.tmp 14), none⟩,
    ⟨(some 16), .call ⟨.value (.tmp 11), #[(.tmp 15)], #[26]⟩, none⟩] [0, 1, 5, 7, 8, 16])
  (.cond (.tmp 16) (.seq (.reg [⟨(some 17), .move (.tmp 5), none⟩,
    ⟨(some 4), .assign (.tmp 17), none⟩] [4])
  .ret)
  .skip))))
  (.reg [⟨(some 18), .binOp .add 3 (.tmp 8) (.const (.int .i64 1)) 3, none⟩,
    ⟨(some 8), .move (.tmp 18), none⟩] [0, 1, 7, 8]))))
/-- slices.IndexFunc[[]loop.example/g01062/impl.Postmark,loop.example/g01062/impl.Postmark]: number 98, params [0, 1] -/
def slices_IndexFunc___impl_Postmark_impl_Postmark__c : ACode := (.seq (.reg [⟨(some 4), .assign (.const (.int .i64 0)), none⟩] [0, 1])
  (.seq (.seq (.reg [⟨(some 6), .move (.tmp 0), none⟩,
    ⟨(some 7), .call ⟨.builtin .len, #[(.tmp 6)], #[34]⟩, none⟩,
    ⟨(some 8), .move (.const (.int .i64 0)), none⟩] [0, 1, 7, 8])
  (.block 0 (.loop slices_IndexFunc___impl_Postmark_impl_Postmark__l0)))
  (.seq (.reg [⟨(some 4), .assign (.const (.int .i64 (-1))), none⟩] [4])
  .ret)))
theorem slices_IndexFunc___impl_Postmark_impl_Postmark__k : fnOk Tryd.prog (fun _ => false) 98 = some (slices_IndexFunc___impl_Postmark_impl_Postmark__c.strip, 19, [.tmp 4]) := by kernel_rfl
/-- loop.example/g01062/impl.postmarkAt$1: number 99, params [0] -/
def impl_postmarkAt_1_c : ACode := (.seq (.reg [⟨(some 2), .box 26 (.tmp 0), none⟩,
    ⟨(some 3), .assign (.const (.bool false)), none⟩] [1, 2])
  (.seq (.reg [⟨(some 4), .fieldAddr 26 (.tmp 2) 0, none⟩,
    ⟨(some 5), .load 3 (.tmp 4), none⟩,
    ⟨(some 6), .load 3 (.tmp 1), none⟩,
    ⟨(some 7), .binOp .eql 3 (.tmp 5) (.tmp 6) 3, none⟩,
    ⟨(some 3), .assign (.tmp 7), none⟩] [3])
  .ret))
theorem impl_postmarkAt_1_k : fnOk Tryd.prog (fun _ => false) 99 = some (impl_postmarkAt_1_c.strip, 8, [.tmp 3]) := by kernel_rfl
/-- cmp.Less[string]: number 122, params [0, 1] -/
def cmp_Less_string__c : ACode := (.seq (.reg [⟨(some 4), .assign (.const (.bool false)), none⟩] [0, 1])
  (.seq (.reg [⟨(some 5), .move (.tmp 0), none⟩,
    ⟨(some 6), .call ⟨.value (.func 145), #[(.tmp 5)], #[9]⟩, none⟩,
    ⟨(some 7), .move (.tmp 6), none⟩,
    ⟨(some 8), .move (.tmp 1), (some (some 7, true))⟩,
    ⟨(some 9), .call ⟨.value (.func 145), #[(.tmp 8)], #[9]⟩, (some (some 7, true))⟩,
    ⟨(some 10), .unOp .not 4 (.tmp 9), (some (some 7, true))⟩,
    ⟨(some 11), .pick (.tmp 7) (.tmp 10) (.const (.bool false)), none⟩,
    ⟨(some 12), .move (.tmp 11), none⟩,
    ⟨(some 13), .move (.tmp 0), (some (some 12, false))⟩,
    ⟨(some 14), .move (.tmp 1), (some (some 12, false))⟩,
    ⟨(some 15), .binOp .lss 9 (.tmp 13) (.tmp 14) 9, (some (some 12, false))⟩,
    ⟨(some 16), .pick (.tmp 12) (.const (.bool true)) (.tmp 15), none⟩,
    ⟨(some 4), .assign (.tmp 16), none⟩] [4])
  .ret))
theorem cmp_Less_string__k : fnOk Tryd.prog (fun _ => false) 122 = some (cmp_Less_string__c.strip, 17, [.tmp 4]) := by kernel_rfl
/-- slices.nextPowerOfTwo: number 141, params [0] -/
def slices_nextPowerOfTwo_c : ACode := (.seq (.reg [⟨(some 2), .assign (.const (.int .u64 0)), none⟩] [0])
  (.seq (.reg [⟨(some 3), .move (.tmp 0), none⟩,
    ⟨(some 4), .convert 3 102 (.tmp 3), none⟩,
    ⟨(some 5), .call ⟨.value (.func 103), #[(.tmp 4)], #[102]⟩, none⟩,
    ⟨(some 6), .binOp .shl 102 (.const (.int .u64 1)) (.tmp 5) 3, none⟩,
    ⟨(some 2), .assign (.tmp 6), none⟩] [2])
  .ret))
theorem slices_nextPowerOfTwo_k : fnOk Tryd.prog (fun _ => false) 141 = some (slices_nextPowerOfTwo_c.strip, 7, [.tmp 2]) := by kernel_rfl
/-- (*slices.xorshift).Next: number 142, params [0] -/
def __slices_xorshift__Next_c : ACode := (.seq (.reg [⟨(some 2), .assign (.const (.int .u64 0)), none⟩] [0])
  (.seq (.regT [⟨(some 3), .move (.tmp 0), none⟩,
    ⟨(some 4), .nilCheck (.tmp 3), none⟩,
    ⟨(some 5), .load 141 (.tmp 4), none⟩,
    ⟨(some 6), .move (.tmp 0), none⟩,
    ⟨(some 7), .nilCheck (.tmp 6), none⟩,
    ⟨(some 8), .load 141 (.tmp 7), none⟩,
    ⟨(some 9), .binOp .shl 141 (.tmp 8) (.const (.int .u64 13)) 102, none⟩,
    ⟨(some 10), .binOp .xor 141 (.tmp 5) (.tmp 9) 141, none⟩,
    ⟨(some 11), .nilCheck (.tmp 3), none⟩]
    [⟨none, .store 141 (.tmp 11) (.tmp 10), none⟩] [0])
  (.seq (.regT [⟨(some 12), .move (.tmp 0), none⟩,
    ⟨(some 13), .nilCheck (.tmp 12), none⟩,
    ⟨(some 14), .load 141 (.tmp 13), none⟩,
    ⟨(some 15), .move (.tmp 0), none⟩,
    ⟨(some 16), .nilCheck (.tmp 15), none⟩,
    ⟨(some 17), .load 141 (.tmp 16), none⟩,
    ⟨(some 18), .binOp .shr 141 (.tmp 17) (.const (.int .u64 7)) 102, none⟩,
    ⟨(some 19), .binOp .xor 141 (.tmp 14) (.tmp 18) 141, none⟩,
    ⟨(some 20), .nilCheck (.tmp 12), none⟩]
    [⟨none, .store 141 (.tmp 20) (.tmp 19), none⟩] [0])
  (.seq (.regT [⟨(some 21), .move (.tmp 0), none⟩,
    ⟨(some 22), .nilCheck (.tmp 21), none⟩,
    ⟨(some 23), .load 141 (.tmp 22), none⟩,
    ⟨(some 24), .move (.tmp 0), none⟩,
    ⟨(some 25), .nilCheck (.tmp 24), none⟩,
    ⟨(some 26), .load 141 (.tmp 25), none⟩,
    ⟨(some 27), .binOp .shl 141 (.tmp 26) (.const (.int .u64 17)) 102, none⟩,
    ⟨(some 28), .binOp .xor 141 (.tmp 23) (.tmp 27) 141, none⟩,
    ⟨(some 29), .nilCheck (.tmp 21), none⟩]
    [⟨none, .store 141 (.tmp 29) (.tmp 28), none⟩] [0])
  (.seq (.reg [⟨(some 30), .move (.tmp 0), none⟩,
    ⟨(some 31), .nilCheck (.tmp 30), none⟩,
    ⟨(some 32), .load 141 (.tmp 31), none⟩,
    ⟨(some 2), .assign (.tmp 32), none⟩] [2])
  .ret)))))
theorem __slices_xorshift__Next_k : fnOk Tryd.prog (fun _ => false) 142 = some (__slices_xorshift__Next_c.strip, 33, [.tmp 2]) := by kernel_rfl
/-- cmp.isNaN[string]: number 145, params [0] -/
def cmp_isNaN_string__c : ACode := (.seq (.reg [⟨(some 2), .assign (.const (.bool false)), none⟩] [0])
  (.seq (.reg [⟨(some 3), .move (.tmp 0), none⟩,
    ⟨(some 4), .move (.tmp 0), none⟩,
    ⟨(some 5), .binOp .neq 9 (.tmp 3) (.tmp 4) 9, none⟩,
    ⟨(some 2), .assign (.tmp 5), none⟩] [2])
  .ret))
theorem cmp_isNaN_string__k : fnOk Tryd.prog (fun _ => false) 145 = some (cmp_isNaN_string__c.strip, 6, [.tmp 2]) := by kernel_rfl
end Go.Proofs.YtnehhdcaknppnaaDoor
