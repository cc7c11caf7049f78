/- Printed by a program of ours: the functions' abstract code and facts on their types. -/
import Derived.Test.YtjiffkjeijfilaaAbsP
import Derived.Test.YtjiffkjeijfilaaProg
import Derived.KernelRfl
set_option maxRecDepth 8000
namespace Go.Proofs.Ytjiffkjeijfilaa
open Go Go.RowKit
@[simp] theorem dk_3 : dK Try.prog 3 = some (.int .i64) := by kernel_rfl
@[simp] theorem ty_3 : tyK Try.prog 3 = some .cell := by kernel_rfl
@[simp] theorem zero_3 : zeroK Try.prog 3 = some [.int .i64 0] := by kernel_rfl
@[simp] theorem dk_4 : dK Try.prog 4 = some .bool := by kernel_rfl
@[simp] theorem ty_4 : tyK Try.prog 4 = some .cell := by kernel_rfl
@[simp] theorem zero_4 : zeroK Try.prog 4 = some [.bool false] := by kernel_rfl
@[simp] theorem dk_5 : dK Try.prog 5 = some (.int .u8) := by kernel_rfl
@[simp] theorem ty_5 : tyK Try.prog 5 = some .cell := by kernel_rfl
@[simp] theorem zero_5 : zeroK Try.prog 5 = some [.int .u8 0] := by kernel_rfl
@[simp] theorem dk_9 : dK Try.prog 9 = some .str := by kernel_rfl
@[simp] theorem ty_9 : tyK Try.prog 9 = some .cell := by kernel_rfl
@[simp] theorem zero_9 : zeroK Try.prog 9 = some [.str []] := by kernel_rfl
@[simp] theorem sl_22 : slK Try.prog 22 = some (5, 1, 1) := by kernel_rfl
@[simp] theorem dk_22 : dK Try.prog 22 = some (.bytes 5) := by kernel_rfl
@[simp] theorem ty_22 : tyK Try.prog 22 = some .cell := by kernel_rfl
@[simp] theorem zero_22 : zeroK Try.prog 22 = some [.nils] := by kernel_rfl
@[simp] theorem sl_24 : slK Try.prog 24 = some (122, 5, 40) := by kernel_rfl
@[simp] theorem dk_24 : dK Try.prog 24 = some .slc := by kernel_rfl
@[simp] theorem ty_24 : tyK Try.prog 24 = some .cell := by kernel_rfl
@[simp] theorem zero_24 : zeroK Try.prog 24 = some [.nils] := by kernel_rfl
@[simp] theorem sl_25 : slK Try.prog 25 = some (113, 4, 32) := by kernel_rfl
@[simp] theorem dk_25 : dK Try.prog 25 = some .slc := by kernel_rfl
@[simp] theorem ty_25 : tyK Try.prog 25 = some .cell := by kernel_rfl
@[simp] theorem zero_25 : zeroK Try.prog 25 = some [.nils] := by kernel_rfl
@[simp] theorem ty_27 : tyK Try.prog 27 = some (.obj 9) := by kernel_rfl
@[simp] theorem fld_27_0 : fldK Try.prog 27 0 = some 0 := by kernel_rfl
@[simp] theorem fld_27_1 : fldK Try.prog 27 1 = some 1 := by kernel_rfl
@[simp] theorem fld_27_2 : fldK Try.prog 27 2 = some 2 := by kernel_rfl
@[simp] theorem fld_27_3 : fldK Try.prog 27 3 = some 3 := by kernel_rfl
@[simp] theorem fld_27_4 : fldK Try.prog 27 4 = some 4 := by kernel_rfl
@[simp] theorem fld_27_5 : fldK Try.prog 27 5 = some 5 := by kernel_rfl
@[simp] theorem fld_27_6 : fldK Try.prog 27 6 = some 6 := by kernel_rfl
@[simp] theorem fld_27_7 : fldK Try.prog 27 7 = some 7 := by kernel_rfl
@[simp] theorem fld_27_8 : fldK Try.prog 27 8 = some 8 := by kernel_rfl
@[simp] theorem eqk_27 : eqKs Try.prog 27 = some [0, 0, 0, 0, 0, 0, 0, 0, 0] := by kernel_rfl
@[simp] theorem pl_27 : plK Try.prog 27 = some (some [(0, 1), (1, 1), (2, 1), (3, 1), (4, 1), (5, 1), (6, 1), (7, 1), (8, 1)]) := by kernel_rfl
@[simp] theorem zero_27 : zeroK Try.prog 27 = some [.int .i64 0, .int .i64 0, .int .i64 0, .int .i64 0, .int .i64 0, .int .i64 0, .int .i64 0, .int .i64 0, .int .i64 0] := by kernel_rfl
@[simp] theorem sl_33 : slK Try.prog 33 = some (3, 1, 8) := by kernel_rfl
@[simp] theorem dk_33 : dK Try.prog 33 = some .slc := by kernel_rfl
@[simp] theorem ty_33 : tyK Try.prog 33 = some .cell := by kernel_rfl
@[simp] theorem zero_33 : zeroK Try.prog 33 = some [.nils] := by kernel_rfl
@[simp] theorem ty_55 : tyK Try.prog 55 = some (.arr 4) := by kernel_rfl
@[simp] theorem arr_55 : arrK Try.prog 55 = some 4 := by kernel_rfl
@[simp] theorem pl_55 : plK Try.prog 55 = some none := by kernel_rfl
@[simp] theorem dk_55 : dK Try.prog 55 = some .other := by kernel_rfl
@[simp] theorem zero_55 : zeroK Try.prog 55 = some [.int .i64 0, .int .i64 0, .int .i64 0, .int .i64 0] := by kernel_rfl
@[simp] theorem sl_57 : slK Try.prog 57 = some (115, 4, 32) := by kernel_rfl
@[simp] theorem dk_57 : dK Try.prog 57 = some .slc := by kernel_rfl
@[simp] theorem ty_57 : tyK Try.prog 57 = some .cell := by kernel_rfl
@[simp] theorem zero_57 : zeroK Try.prog 57 = some [.nils] := by kernel_rfl
@[simp] theorem sl_58 : slK Try.prog 58 = some (117, 9, 72) := by kernel_rfl
@[simp] theorem dk_58 : dK Try.prog 58 = some .slc := by kernel_rfl
@[simp] theorem ty_58 : tyK Try.prog 58 = some .cell := by kernel_rfl
@[simp] theorem zero_58 : zeroK Try.prog 58 = some [.nils] := by kernel_rfl
@[simp] theorem sl_63 : slK Try.prog 63 = some (27, 9, 72) := by kernel_rfl
@[simp] theorem dk_63 : dK Try.prog 63 = some .slc := by kernel_rfl
@[simp] theorem ty_63 : tyK Try.prog 63 = some .cell := by kernel_rfl
@[simp] theorem zero_63 : zeroK Try.prog 63 = some [.nils] := by kernel_rfl
@[simp] theorem sl_71 : slK Try.prog 71 = some (124, 5, 40) := by kernel_rfl
@[simp] theorem dk_71 : dK Try.prog 71 = some .slc := by kernel_rfl
@[simp] theorem ty_71 : tyK Try.prog 71 = some .cell := by kernel_rfl
@[simp] theorem zero_71 : zeroK Try.prog 71 = some [.nils] := by kernel_rfl
@[simp] theorem dk_86 : dK Try.prog 86 = some (.int .u64) := by kernel_rfl
@[simp] theorem ty_86 : tyK Try.prog 86 = some .cell := by kernel_rfl
@[simp] theorem zero_86 : zeroK Try.prog 86 = some [.int .u64 0] := by kernel_rfl
@[simp] theorem ty_103 : tyK Try.prog 103 = some (.arr 6) := by kernel_rfl
@[simp] theorem arr_103 : arrK Try.prog 103 = some 6 := by kernel_rfl
@[simp] theorem pl_103 : plK Try.prog 103 = some none := by kernel_rfl
@[simp] theorem dk_103 : dK Try.prog 103 = some .other := by kernel_rfl
@[simp] theorem zero_103 : zeroK Try.prog 103 = some [.str [], .str [], .str [], .str [], .str [], .str []] := by kernel_rfl
@[simp] theorem sl_104 : slK Try.prog 104 = some (9, 1, 16) := by kernel_rfl
@[simp] theorem dk_104 : dK Try.prog 104 = some .slc := by kernel_rfl
@[simp] theorem ty_104 : tyK Try.prog 104 = some .cell := by kernel_rfl
@[simp] theorem zero_104 : zeroK Try.prog 104 = some [.nils] := by kernel_rfl
@[simp] theorem ty_113 : tyK Try.prog 113 = some (.obj 4) := by kernel_rfl
@[simp] theorem fld_113_0 : fldK Try.prog 113 0 = some 0 := by kernel_rfl
@[simp] theorem fld_113_1 : fldK Try.prog 113 1 = some 1 := by kernel_rfl
@[simp] theorem fld_113_2 : fldK Try.prog 113 2 = some 2 := by kernel_rfl
@[simp] theorem fld_113_3 : fldK Try.prog 113 3 = some 3 := by kernel_rfl
@[simp] theorem eqk_113 : eqKs Try.prog 113 = some [0, 0, 0, 0] := by kernel_rfl
@[simp] theorem pl_113 : plK Try.prog 113 = some (some [(0, 1), (1, 1), (2, 1), (3, 1)]) := by kernel_rfl
@[simp] theorem zero_113 : zeroK Try.prog 113 = some [.int .i64 0, .int .i64 0, .int .i64 0, .int .i64 0] := by kernel_rfl
@[simp] theorem ty_115 : tyK Try.prog 115 = some (.obj 4) := by kernel_rfl
@[simp] theorem fld_115_0 : fldK Try.prog 115 0 = some 0 := by kernel_rfl
@[simp] theorem fld_115_1 : fldK Try.prog 115 1 = some 1 := by kernel_rfl
@[simp] theorem fld_115_2 : fldK Try.prog 115 2 = some 2 := by kernel_rfl
@[simp] theorem fld_115_3 : fldK Try.prog 115 3 = some 3 := by kernel_rfl
@[simp] theorem eqk_115 : eqKs Try.prog 115 = some [0, 0, 0, 0] := by kernel_rfl
@[simp] theorem pl_115 : plK Try.prog 115 = some (some [(0, 1), (1, 1), (2, 1), (3, 1)]) := by kernel_rfl
@[simp] theorem zero_115 : zeroK Try.prog 115 = some [.int .i64 0, .int .i64 0, .int .i64 0, .int .i64 0] := by kernel_rfl
@[simp] theorem ty_117 : tyK Try.prog 117 = some (.obj 9) := by kernel_rfl
@[simp] theorem fld_117_0 : fldK Try.prog 117 0 = some 0 := by kernel_rfl
@[simp] theorem fld_117_1 : fldK Try.prog 117 1 = some 1 := by kernel_rfl
@[simp] theorem fld_117_2 : fldK Try.prog 117 2 = some 2 := by kernel_rfl
@[simp] theorem fld_117_3 : fldK Try.prog 117 3 = some 3 := by kernel_rfl
@[simp] theorem fld_117_4 : fldK Try.prog 117 4 = some 4 := by kernel_rfl
@[simp] theorem fld_117_5 : fldK Try.prog 117 5 = some 5 := by kernel_rfl
@[simp] theorem fld_117_6 : fldK Try.prog 117 6 = some 6 := by kernel_rfl
@[simp] theorem fld_117_7 : fldK Try.prog 117 7 = some 7 := by kernel_rfl
@[simp] theorem fld_117_8 : fldK Try.prog 117 8 = some 8 := by kernel_rfl
@[simp] theorem eqk_117 : eqKs Try.prog 117 = some [0, 0, 0, 0, 0, 0, 0, 0, 0] := by kernel_rfl
@[simp] theorem pl_117 : plK Try.prog 117 = some (some [(0, 1), (1, 1), (2, 1), (3, 1), (4, 1), (5, 1), (6, 1), (7, 1), (8, 1)]) := by kernel_rfl
@[simp] theorem zero_117 : zeroK Try.prog 117 = some [.int .i64 0, .int .i64 0, .int .i64 0, .int .i64 0, .int .i64 0, .int .i64 0, .int .i64 0, .int .i64 0, .int .i64 0] := by kernel_rfl
@[simp] theorem ty_122 : tyK Try.prog 122 = some (.obj 5) := by kernel_rfl
@[simp] theorem fld_122_0 : fldK Try.prog 122 0 = some 0 := by kernel_rfl
@[simp] theorem fld_122_1 : fldK Try.prog 122 1 = some 1 := by kernel_rfl
@[simp] theorem fld_122_2 : fldK Try.prog 122 2 = some 2 := by kernel_rfl
@[simp] theorem fld_122_3 : fldK Try.prog 122 3 = some 3 := by kernel_rfl
@[simp] theorem fld_122_4 : fldK Try.prog 122 4 = some 4 := by kernel_rfl
@[simp] theorem eqk_122 : eqKs Try.prog 122 = some [0, 0, 0, 0, 0] := by kernel_rfl
@[simp] theorem pl_122 : plK Try.prog 122 = some (some [(0, 1), (1, 1), (2, 1), (3, 1), (4, 1)]) := by kernel_rfl
@[simp] theorem zero_122 : zeroK Try.prog 122 = some [.int .i64 0, .int .i64 0, .int .i64 0, .int .i64 0, .int .i64 0] := by kernel_rfl
@[simp] theorem ty_124 : tyK Try.prog 124 = some (.obj 5) := by kernel_rfl
@[simp] theorem fld_124_0 : fldK Try.prog 124 0 = some 0 := by kernel_rfl
@[simp] theorem fld_124_1 : fldK Try.prog 124 1 = some 1 := by kernel_rfl
@[simp] theorem fld_124_2 : fldK Try.prog 124 2 = some 2 := by kernel_rfl
@[simp] theorem fld_124_3 : fldK Try.prog 124 3 = some 3 := by kernel_rfl
@[simp] theorem fld_124_4 : fldK Try.prog 124 4 = some 4 := by kernel_rfl
@[simp] theorem eqk_124 : eqKs Try.prog 124 = some [0, 0, 0, 0, 0] := by kernel_rfl
@[simp] theorem pl_124 : plK Try.prog 124 = some (some [(0, 1), (1, 1), (2, 1), (3, 1), (4, 1)]) := by kernel_rfl
@[simp] theorem zero_124 : zeroK Try.prog 124 = some [.int .i64 0, .int .i64 0, .int .i64 0, .int .i64 0, .int .i64 0] := by kernel_rfl
@[simp] theorem sl_127 : slK Try.prog 127 = some (4, 1, 1) := by kernel_rfl
@[simp] theorem dk_127 : dK Try.prog 127 = some .slc := by kernel_rfl
@[simp] theorem ty_127 : tyK Try.prog 127 = some .cell := by kernel_rfl
@[simp] theorem zero_127 : zeroK Try.prog 127 = some [.nils] := by kernel_rfl
@[simp] theorem dk_141 : dK Try.prog 141 = some (.int .u64) := by kernel_rfl
@[simp] theorem ty_141 : tyK Try.prog 141 = some .cell := by kernel_rfl
@[simp] theorem zero_141 : zeroK Try.prog 141 = some [.int .u64 0] := by kernel_rfl
@[simp] theorem dk_157 : dK Try.prog 157 = some (.int .u32) := by kernel_rfl
@[simp] theorem ty_157 : tyK Try.prog 157 = some .cell := by kernel_rfl
@[simp] theorem zero_157 : zeroK Try.prog 157 = some [.int .u32 0] := by kernel_rfl
/-- loop.example/g01062/laws.vBig: number 8, params [0] -/
def laws_vBig_c : ACode := (.seq (.reg [⟨(some 2), .assign (.const (.bool false)), none⟩] [0])
  (.seq (.reg [⟨(some 3), .move (.tmp 0), none⟩,
    ⟨(some 4), .call ⟨.builtin .len, #[(.tmp 3)], #[22]⟩, none⟩,
    ⟨(some 5), .binOp .gtr 3 (.tmp 4) (.const (.int .i64 65536)) 3, none⟩,
    ⟨(some 2), .assign (.tmp 5), none⟩] [2])
  .ret))
theorem laws_vBig_k : fnOk Try.prog (fun _ => false) 8 = some (laws_vBig_c.strip, 6, [.tmp 2]) := by kernel_rfl
/-- head: [0, 1, 5] -/
def laws_vInts_l0 : ACode := (.seq (.seq (.reg [⟨(some 11), .move (.tmp 5), none⟩,
    ⟨(some 12), .move (.tmp 0), none⟩,
    ⟨(some 13), .call ⟨.builtin .len, #[(.tmp 12)], #[33]⟩, none⟩,
    ⟨(some 14), .binOp .lss 3 (.tmp 11) (.tmp 13) 3, none⟩] [0, 1, 5, 14])
  (.cond (.tmp 14) .skip
  (.exit 0)))
  (.seq (.block 1 (.seq (.regQ [⟨(some 17), .move (.tmp 0), none⟩,
    ⟨(some 18), .move (.tmp 5), none⟩,
    ⟨(some 19), .indexAddr 33 (.tmp 17) (.tmp 18), none⟩,
    ⟨(some 20), .load 3 (.tmp 19), none⟩,
    ⟨(some 21), .move (.tmp 1), none⟩,
    ⟨(some 22), .move (.tmp 5), none⟩,
    ⟨(some 23), .indexAddr 33 (.tmp 21) (.tmp 22), none⟩,
    ⟨(some 24), .load 3 (.tmp 23), none⟩,
    ⟨(some 25), .binOp .neq 3 (.tmp 20) (.tmp 24) 3, none⟩] [0, 1, 5, 25])
  (.cond (.tmp 25) (.seq (.reg [⟨(some 4), .assign (.const (.bool false)), none⟩] [4])
  .ret)
  .skip)))
  (.reg [⟨(some 15), .move (.tmp 5), none⟩,
    ⟨(some 16), .binOp .add 3 (.tmp 15) (.const (.int .i64 1)) 3, none⟩,
    ⟨(some 5), .assign (.tmp 16), none⟩] [0, 1, 5])))
/-- loop.example/g01062/laws.vInts: number 16, params [0, 1] -/
def laws_vInts_c : ACode := (.seq (.reg [⟨(some 4), .assign (.const (.bool false)), none⟩] [0, 1])
  (.seq (.seq (.reg [⟨(some 6), .move (.tmp 0), none⟩,
    ⟨(some 7), .call ⟨.builtin .len, #[(.tmp 6)], #[33]⟩, none⟩,
    ⟨(some 8), .move (.tmp 1), none⟩,
    ⟨(some 9), .call ⟨.builtin .len, #[(.tmp 8)], #[33]⟩, none⟩,
    ⟨(some 10), .binOp .neq 3 (.tmp 7) (.tmp 9) 3, none⟩] [0, 1, 10])
  (.cond (.tmp 10) (.seq (.reg [⟨(some 4), .assign (.const (.bool false)), none⟩] [4])
  .ret)
  .skip))
  (.seq (.seq (.reg [⟨(some 5), .assign (.const (.int .i64 0)), none⟩] [0, 1, 5])
  (.block 0 (.loop laws_vInts_l0)))
  (.seq (.reg [⟨(some 4), .assign (.const (.bool true)), none⟩] [4])
  .ret))))
theorem laws_vInts_k : fnOk Try.prog (fun _ => false) 16 = some (laws_vInts_c.strip, 26, [.tmp 4]) := by kernel_rfl
/-- loop.example/g01062/impl.IsCover: number 21, params [0] -/
def impl_IsCover_c : ACode := (.seq (.reg [⟨(some 1), .box 27 (.tmp 0), none⟩,
    ⟨(some 2), .assign (.const (.bool false)), none⟩] [1])
  (.seq (.reg [⟨(some 3), .load 27 (.tmp 1), none⟩,
    ⟨(some 4), .call ⟨.value (.func 72), #[(.tmp 3)], #[27]⟩, none⟩,
    ⟨(some 2), .assign (.tmp 4), none⟩] [2])
  .ret))
theorem impl_IsCover_k : fnOk Try.prog (fun _ => false) 21 = some (impl_IsCover_c.strip, 5, [.tmp 2]) := by kernel_rfl
/-- loop.example/g01062/spec.IsCover: number 22, params [0] -/
def spec_IsCover_c : ACode := (.seq (.reg [⟨(some 1), .box 27 (.tmp 0), none⟩,
    ⟨(some 2), .assign (.const (.bool false)), none⟩] [1])
  (.seq (.reg [⟨(some 3), .load 27 (.tmp 1), none⟩,
    ⟨(some 4), .call ⟨.value (.func 76), #[(.tmp 3)], #[27]⟩, none⟩,
    ⟨(some 2), .assign (.tmp 4), none⟩] [2])
  .ret))
theorem spec_IsCover_k : fnOk Try.prog (fun _ => false) 22 = some (spec_IsCover_c.strip, 5, [.tmp 2]) := by kernel_rfl
/-- head: [0, 7, 8, 9] -/
def impl_areRates_l0 : ACode := (.seq (.reg [⟨(some 10), .binOp .lss 3 (.tmp 9) (.tmp 8) 3, none⟩] [0, 7, 8, 9, 10])
  (.seq (.cond (.tmp 10) .skip
  (.exit 0))
  (.seq (.block 1 (.seq (.reg [⟨(some 11), .move (.tmp 9), none⟩,
    ⟨(some 12), .indexAddr 24 (.tmp 7) (.tmp 9), none⟩,
    ⟨(some 13), .load 122 (.tmp 12), none⟩,
    ⟨(some 4), .alloc 122, none⟩,
    ⟨(some 3), .assign (.tmp 11), none⟩,
    ⟨none, .store 122 (.tmp 4) (.tmp 13), none⟩] [0, 3, 4, 7, 8, 9])
  (.seq (.seq (.reg [⟨(some 14), .load 122 (.tmp 4), none⟩,
    ⟨(some 15), .call ⟨.value (.func 125), #[(.tmp 14)], #[122]⟩, none⟩,
    ⟨(some 16), .unOp .not 4 (.tmp 15), none⟩] [0, 3, 4, 7, 8, 9, 16])
  (.cond (.tmp 16) (.seq (.reg [⟨(some 2), .assign (.const (.bool false)), none⟩] [2])
  .ret)
  .skip))
  (.seq (.seq (.reg [⟨(some 17), .move (.tmp 3), none⟩,
    ⟨(some 18), .binOp .eql 3 (.tmp 17) (.const (.int .i64 0)) 3, none⟩] [0, 3, 4, 7, 8, 9, 18])
  (.cond (.tmp 18) (.exit 1)
  .skip))
  (.seq (.reg [⟨(some 19), .move (.tmp 0), none⟩,
    ⟨(some 20), .move (.tmp 3), none⟩,
    ⟨(some 21), .binOp .sub 3 (.tmp 20) (.const (.int .i64 1)) 3, none⟩,
    ⟨(some 22), .indexAddr 24 (.tmp 19) (.tmp 21), none⟩,
    ⟨(some 23), .load 122 (.tmp 22), none⟩,
    ⟨(some 5), .alloc 122, none⟩,
    ⟨none, .store 122 (.tmp 5) (.tmp 23), none⟩] [0, 4, 5, 7, 8, 9])
  (.seq (.regT [⟨(some 24), .fieldAddr 122 (.tmp 5) 0, none⟩,
    ⟨(some 25), .load 3 (.tmp 24), none⟩,
    ⟨(some 26), .fieldAddr 122 (.tmp 4) 0, none⟩,
    ⟨(some 27), .load 3 (.tmp 26), none⟩,
    ⟨(some 28), .call ⟨.value (.func 104), #[(.tmp 25), (.tmp 27)], #[3, 3]⟩, none⟩,
    ⟨(some 29), .fieldAddr 122 (.tmp 5) 1, none⟩,
    ⟨(some 30), .load 3 (.tmp 29), none⟩,
    ⟨(some 31), .fieldAddr 122 (.tmp 4) 1, none⟩,
    ⟨(some 32), .load 3 (.tmp 31), none⟩,
    ⟨(some 33), .call ⟨.value (.func 104), #[(.tmp 30), (.tmp 32)], #[3, 3]⟩, none⟩]
    [⟨(some 34), .buildSlice 33 2 #[(0, (.tmp 28)), (1, (.tmp 33))], none⟩,
    ⟨(some 35), .call ⟨.value (.func 103), #[(.tmp 34)], #[33]⟩, none⟩,
    ⟨(some 6), .assign (.tmp 35), none⟩] [0, 4, 5, 6, 7, 8, 9])
  (.seq (.reg [⟨(some 36), .move (.tmp 6), none⟩,
    ⟨(some 37), .binOp .gtr 3 (.tmp 36) (.const (.int .i64 0)) 3, none⟩,
    ⟨(some 38), .move (.tmp 37), none⟩,
    ⟨(some 39), .move (.tmp 6), (some (some 38, false))⟩,
    ⟨(some 40), .binOp .eql 3 (.tmp 39) (.const (.int .i64 0)) 3, (some (some 38, false))⟩,
    ⟨(some 41), .move (.tmp 40), (some (some 38, false))⟩,
    ⟨(some 42), .fieldAddr 122 (.tmp 5) 3, (some (some 41, true))⟩,
    ⟨(some 43), .load 3 (.tmp 42), (some (some 41, true))⟩,
    ⟨(some 44), .fieldAddr 122 (.tmp 4) 2, (some (some 41, true))⟩,
    ⟨(some 45), .load 3 (.tmp 44), (some (some 41, true))⟩,
    ⟨(some 46), .binOp .geq 3 (.tmp 43) (.tmp 45) 3, (some (some 41, true))⟩,
    ⟨(some 47), .pick (.tmp 41) (.tmp 46) (.const (.bool false)), (some (some 38, false))⟩,
    ⟨(some 48), .pick (.tmp 38) (.const (.bool true)) (.tmp 47), none⟩] [0, 7, 8, 9, 48])
  (.cond (.tmp 48) (.seq (.reg [⟨(some 2), .assign (.const (.bool false)), none⟩] [2])
  .ret)
  .skip))))))))
  (.reg [⟨(some 49), .binOp .add 3 (.tmp 9) (.const (.int .i64 1)) 3, none⟩,
    ⟨(some 9), .move (.tmp 49), none⟩] [0, 7, 8, 9]))))
/-- loop.example/g01062/impl.areRates: number 70, params [0] -/
def impl_areRates_c : ACode := (.seq (.reg [⟨(some 2), .assign (.const (.bool false)), none⟩] [0])
  (.seq (.seq (.reg [⟨(some 7), .move (.tmp 0), none⟩,
    ⟨(some 8), .call ⟨.builtin .len, #[(.tmp 7)], #[24]⟩, none⟩,
    ⟨(some 9), .move (.const (.int .i64 0)), none⟩] [0, 7, 8, 9])
  (.block 0 (.loop impl_areRates_l0)))
  (.seq (.reg [⟨(some 50), .move (.tmp 0), none⟩,
    ⟨(some 51), .call ⟨.builtin .len, #[(.tmp 50)], #[24]⟩, none⟩,
    ⟨(some 52), .binOp .leq 3 (.tmp 51) (.const (.int .i64 16)) 3, none⟩,
    ⟨(some 2), .assign (.tmp 52), none⟩] [2])
  .ret)))
theorem impl_areRates_k : fnOk Try.prog (fun _ => false) 70 = some (impl_areRates_c.strip, 53, [.tmp 2]) := by kernel_rfl
/-- loop.example/g01062/impl.isCover: number 72, params [0] -/
def impl_isCover_c : ACode := (.seq (.reg [⟨(some 1), .box 27 (.tmp 0), none⟩,
    ⟨(some 2), .assign (.const (.bool false)), none⟩] [1])
  (.seq (.reg [⟨(some 3), .fieldAddr 27 (.tmp 1) 0, none⟩,
    ⟨(some 4), .load 3 (.tmp 3), none⟩,
    ⟨(some 5), .call ⟨.value (.func 90), #[(.tmp 4), (.const (.int .i64 1)), (.const (.int .i64 999))], #[3, 3, 3]⟩, none⟩,
    ⟨(some 6), .move (.tmp 5), none⟩,
    ⟨(some 7), .fieldAddr 27 (.tmp 1) 1, (some (some 6, true))⟩,
    ⟨(some 8), .load 3 (.tmp 7), (some (some 6, true))⟩,
    ⟨(some 9), .call ⟨.value (.func 127), #[(.tmp 8)], #[3]⟩, (some (some 6, true))⟩,
    ⟨(some 10), .pick (.tmp 6) (.tmp 9) (.const (.bool false)), none⟩,
    ⟨(some 11), .move (.tmp 10), none⟩,
    ⟨(some 12), .fieldAddr 27 (.tmp 1) 2, (some (some 11, true))⟩,
    ⟨(some 13), .load 3 (.tmp 12), (some (some 11, true))⟩,
    ⟨(some 14), .call ⟨.value (.func 128), #[(.tmp 13)], #[3]⟩, (some (some 11, true))⟩,
    ⟨(some 15), .pick (.tmp 11) (.tmp 14) (.const (.bool false)), none⟩,
    ⟨(some 16), .move (.tmp 15), none⟩,
    ⟨(some 17), .fieldAddr 27 (.tmp 1) 3, (some (some 16, true))⟩,
    ⟨(some 18), .load 3 (.tmp 17), (some (some 16, true))⟩,
    ⟨(some 19), .call ⟨.value (.func 129), #[(.tmp 18)], #[3]⟩, (some (some 16, true))⟩,
    ⟨(some 20), .pick (.tmp 16) (.tmp 19) (.const (.bool false)), none⟩,
    ⟨(some 21), .move (.tmp 20), none⟩,
    ⟨(some 22), .fieldAddr 27 (.tmp 1) 4, (some (some 21, true))⟩,
    ⟨(some 23), .load 3 (.tmp 22), (some (some 21, true))⟩,
    ⟨(some 24), .call ⟨.value (.func 130), #[(.tmp 23)], #[3]⟩, (some (some 21, true))⟩,
    ⟨(some 25), .pick (.tmp 21) (.tmp 24) (.const (.bool false)), none⟩,
    ⟨(some 26), .move (.tmp 25), none⟩,
    ⟨(some 27), .fieldAddr 27 (.tmp 1) 5, (some (some 26, true))⟩,
    ⟨(some 28), .load 3 (.tmp 27), (some (some 26, true))⟩,
    ⟨(some 29), .call ⟨.value (.func 83), #[(.tmp 28)], #[3]⟩, (some (some 26, true))⟩,
    ⟨(some 30), .pick (.tmp 26) (.tmp 29) (.const (.bool false)), none⟩,
    ⟨(some 31), .move (.tmp 30), none⟩,
    ⟨(some 32), .fieldAddr 27 (.tmp 1) 6, (some (some 31, true))⟩,
    ⟨(some 33), .load 3 (.tmp 32), (some (some 31, true))⟩,
    ⟨(some 34), .call ⟨.value (.func 83), #[(.tmp 33)], #[3]⟩, (some (some 31, true))⟩,
    ⟨(some 35), .pick (.tmp 31) (.tmp 34) (.const (.bool false)), none⟩,
    ⟨(some 36), .move (.tmp 35), none⟩,
    ⟨(some 37), .fieldAddr 27 (.tmp 1) 5, (some (some 36, true))⟩,
    ⟨(some 38), .load 3 (.tmp 37), (some (some 36, true))⟩,
    ⟨(some 39), .fieldAddr 27 (.tmp 1) 6, (some (some 36, true))⟩,
    ⟨(some 40), .load 3 (.tmp 39), (some (some 36, true))⟩,
    ⟨(some 41), .binOp .neq 3 (.tmp 38) (.tmp 40) 3, (some (some 36, true))⟩,
    ⟨(some 42), .pick (.tmp 36) (.tmp 41) (.const (.bool false)), none⟩,
    ⟨(some 43), .move (.tmp 42), none⟩,
    ⟨(some 44), .fieldAddr 27 (.tmp 1) 7, (some (some 43, true))⟩,
    ⟨(some 45), .load 3 (.tmp 44), (some (some 43, true))⟩,
    ⟨(some 46), .fieldAddr 27 (.tmp 1) 8, (some (some 43, true))⟩,
    ⟨(some 47), .load 3 (.tmp 46), (some (some 43, true))⟩,
    ⟨(some 48), .call ⟨.value (.func 90), #[(.tmp 45), (.const (.int .i64 0)), (.tmp 47)], #[3, 3, 3]⟩, (some (some 43, true))⟩,
    ⟨(some 49), .pick (.tmp 43) (.tmp 48) (.const (.bool false)), none⟩,
    ⟨(some 50), .move (.tmp 49), none⟩,
    ⟨(some 51), .fieldAddr 27 (.tmp 1) 8, (some (some 50, true))⟩,
    ⟨(some 52), .load 3 (.tmp 51), (some (some 50, true))⟩,
    ⟨(some 53), .call ⟨.value (.func 84), #[(.tmp 52)], #[3]⟩, (some (some 50, true))⟩,
    ⟨(some 54), .pick (.tmp 50) (.tmp 53) (.const (.bool false)), none⟩,
    ⟨(some 2), .assign (.tmp 54), none⟩] [2])
  .ret))
theorem impl_isCover_k : fnOk Try.prog (fun _ => false) 72 = some (impl_isCover_c.strip, 55, [.tmp 2]) := by kernel_rfl
/-- head: [0, 3] -/
def spec_l8Good_l0 : ACode := (.seq (.seq (.reg [⟨(some 4), .move (.tmp 3), none⟩,
    ⟨(some 5), .move (.tmp 0), none⟩,
    ⟨(some 6), .call ⟨.builtin .len, #[(.tmp 5)], #[24]⟩, none⟩,
    ⟨(some 7), .binOp .lss 3 (.tmp 4) (.tmp 6) 3, none⟩,
    ⟨(some 8), .move (.tmp 7), none⟩,
    ⟨(some 9), .move (.tmp 3), (some (some 8, true))⟩,
    ⟨(some 10), .binOp .leq 3 (.tmp 9) (.const (.int .i64 16)) 3, (some (some 8, true))⟩,
    ⟨(some 11), .pick (.tmp 8) (.tmp 10) (.const (.bool false)), none⟩] [0, 3, 11])
  (.cond (.tmp 11) .skip
  (.exit 0)))
  (.seq (.block 1 (.seq (.seq (.regQ [⟨(some 14), .move (.tmp 0), none⟩,
    ⟨(some 15), .move (.tmp 3), none⟩,
    ⟨(some 16), .indexAddr 24 (.tmp 14) (.tmp 15), none⟩,
    ⟨(some 17), .load 122 (.tmp 16), none⟩,
    ⟨(some 18), .call ⟨.value (.func 132), #[(.tmp 17)], #[122]⟩, none⟩,
    ⟨(some 19), .unOp .not 4 (.tmp 18), none⟩,
    ⟨(some 20), .move (.tmp 19), none⟩,
    ⟨(some 21), .move (.tmp 3), (some (some 20, false))⟩,
    ⟨(some 22), .binOp .gtr 3 (.tmp 21) (.const (.int .i64 0)) 3, (some (some 20, false))⟩,
    ⟨(some 23), .move (.tmp 22), (some (some 20, false))⟩,
    ⟨(some 24), .move (.tmp 0), (some (some 23, true))⟩,
    ⟨(some 25), .move (.tmp 3), (some (some 23, true))⟩,
    ⟨(some 26), .binOp .sub 3 (.tmp 25) (.const (.int .i64 1)) 3, (some (some 23, true))⟩,
    ⟨(some 27), .indexAddr 24 (.tmp 24) (.tmp 26), (some (some 23, true))⟩,
    ⟨(some 28), .load 122 (.tmp 27), (some (some 23, true))⟩,
    ⟨(some 29), .call ⟨.value (.func 133), #[(.tmp 28)], #[122]⟩, (some (some 23, true))⟩,
    ⟨(some 30), .move (.tmp 0), (some (some 23, true))⟩,
    ⟨(some 31), .move (.tmp 3), (some (some 23, true))⟩,
    ⟨(some 32), .indexAddr 24 (.tmp 30) (.tmp 31), (some (some 23, true))⟩,
    ⟨(some 33), .load 122 (.tmp 32), (some (some 23, true))⟩,
    ⟨(some 34), .call ⟨.value (.func 133), #[(.tmp 33)], #[122]⟩, (some (some 23, true))⟩,
    ⟨(some 35), .binOp .geq 3 (.tmp 29) (.tmp 34) 3, (some (some 23, true))⟩,
    ⟨(some 36), .pick (.tmp 23) (.tmp 35) (.const (.bool false)), (some (some 20, false))⟩,
    ⟨(some 37), .pick (.tmp 20) (.const (.bool true)) (.tmp 36), none⟩] [0, 3, 37])
  (.cond (.tmp 37) (.seq (.reg [⟨(some 2), .assign (.const (.bool false)), none⟩] [2])
  .ret)
  .skip))
  (.seq (.regQ [⟨(some 38), .move (.tmp 3), none⟩,
    ⟨(some 39), .binOp .gtr 3 (.tmp 38) (.const (.int .i64 0)) 3, none⟩,
    ⟨(some 40), .move (.tmp 39), none⟩,
    ⟨(some 41), .move (.tmp 0), (some (some 40, true))⟩,
    ⟨(some 42), .move (.tmp 3), (some (some 40, true))⟩,
    ⟨(some 43), .binOp .sub 3 (.tmp 42) (.const (.int .i64 1)) 3, (some (some 40, true))⟩,
    ⟨(some 44), .indexAddr 24 (.tmp 41) (.tmp 43), (some (some 40, true))⟩,
    ⟨(some 45), .fieldAddr 122 (.tmp 44) 0, (some (some 40, true))⟩,
    ⟨(some 46), .load 3 (.tmp 45), (some (some 40, true))⟩,
    ⟨(some 47), .move (.tmp 0), (some (some 40, true))⟩,
    ⟨(some 48), .move (.tmp 3), (some (some 40, true))⟩,
    ⟨(some 49), .indexAddr 24 (.tmp 47) (.tmp 48), (some (some 40, true))⟩,
    ⟨(some 50), .fieldAddr 122 (.tmp 49) 0, (some (some 40, true))⟩,
    ⟨(some 51), .load 3 (.tmp 50), (some (some 40, true))⟩,
    ⟨(some 52), .binOp .eql 3 (.tmp 46) (.tmp 51) 3, (some (some 40, true))⟩,
    ⟨(some 53), .pick (.tmp 40) (.tmp 52) (.const (.bool false)), none⟩,
    ⟨(some 54), .move (.tmp 53), none⟩,
    ⟨(some 55), .move (.tmp 0), (some (some 54, true))⟩,
    ⟨(some 56), .move (.tmp 3), (some (some 54, true))⟩,
    ⟨(some 57), .binOp .sub 3 (.tmp 56) (.const (.int .i64 1)) 3, (some (some 54, true))⟩,
    ⟨(some 58), .indexAddr 24 (.tmp 55) (.tmp 57), (some (some 54, true))⟩,
    ⟨(some 59), .fieldAddr 122 (.tmp 58) 1, (some (some 54, true))⟩,
    ⟨(some 60), .load 3 (.tmp 59), (some (some 54, true))⟩,
    ⟨(some 61), .move (.tmp 0), (some (some 54, true))⟩,
    ⟨(some 62), .move (.tmp 3), (some (some 54, true))⟩,
    ⟨(some 63), .indexAddr 24 (.tmp 61) (.tmp 62), (some (some 54, true))⟩,
    ⟨(some 64), .fieldAddr 122 (.tmp 63) 1, (some (some 54, true))⟩,
    ⟨(some 65), .load 3 (.tmp 64), (some (some 54, true))⟩,
    ⟨(some 66), .binOp .eql 3 (.tmp 60) (.tmp 65) 3, (some (some 54, true))⟩,
    ⟨(some 67), .pick (.tmp 54) (.tmp 66) (.const (.bool false)), none⟩,
    ⟨(some 68), .move (.tmp 67), none⟩,
    ⟨(some 69), .move (.tmp 0), (some (some 68, true))⟩,
    ⟨(some 70), .move (.tmp 3), (some (some 68, true))⟩,
    ⟨(some 71), .binOp .sub 3 (.tmp 70) (.const (.int .i64 1)) 3, (some (some 68, true))⟩,
    ⟨(some 72), .indexAddr 24 (.tmp 69) (.tmp 71), (some (some 68, true))⟩,
    ⟨(some 73), .fieldAddr 122 (.tmp 72) 3, (some (some 68, true))⟩,
    ⟨(some 74), .load 3 (.tmp 73), (some (some 68, true))⟩,
    ⟨(some 75), .move (.tmp 0), (some (some 68, true))⟩,
    ⟨(some 76), .move (.tmp 3), (some (some 68, true))⟩,
    ⟨(some 77), .indexAddr 24 (.tmp 75) (.tmp 76), (some (some 68, true))⟩,
    ⟨(some 78), .fieldAddr 122 (.tmp 77) 2, (some (some 68, true))⟩,
    ⟨(some 79), .load 3 (.tmp 78), (some (some 68, true))⟩,
    ⟨(some 80), .binOp .geq 3 (.tmp 74) (.tmp 79) 3, (some (some 68, true))⟩,
    ⟨(some 81), .pick (.tmp 68) (.tmp 80) (.const (.bool false)), none⟩] [0, 3, 81])
  (.cond (.tmp 81) (.seq (.reg [⟨(some 2), .assign (.const (.bool false)), none⟩] [2])
  .ret)
  .skip))))
  (.reg [⟨(some 12), .move (.tmp 3), none⟩,
    ⟨(some 13), .binOp .add 3 (.tmp 12) (.const (.int .i64 1)) 3, none⟩,
    ⟨(some 3), .assign (.tmp 13), none⟩] [0, 3])))
/-- loop.example/g01062/spec.l8Good: number 74, params [0] -/
def spec_l8Good_c : ACode := (.seq (.reg [⟨(some 2), .assign (.const (.bool false)), none⟩] [0])
  (.seq (.seq (.reg [⟨(some 3), .assign (.const (.int .i64 0)), none⟩] [0, 3])
  (.block 0 (.loop spec_l8Good_l0)))
  (.seq (.reg [⟨(some 82), .move (.tmp 0), none⟩,
    ⟨(some 83), .call ⟨.builtin .len, #[(.tmp 82)], #[24]⟩, none⟩,
    ⟨(some 84), .binOp .leq 3 (.tmp 83) (.const (.int .i64 16)) 3, none⟩,
    ⟨(some 2), .assign (.tmp 84), none⟩] [2])
  .ret)))
theorem spec_l8Good_k : fnOk Try.prog (fun _ => false) 74 = some (spec_l8Good_c.strip, 85, [.tmp 2]) := by kernel_rfl
/-- loop.example/g01062/spec.l10One: number 76, params [0] -/
def spec_l10One_c : ACode := (.seq (.reg [⟨(some 1), .box 27 (.tmp 0), none⟩,
    ⟨(some 2), .assign (.const (.bool false)), none⟩] [1])
  (.seq (.seq (.reg [⟨(some 3), .fieldAddr 27 (.tmp 1) 0, none⟩,
    ⟨(some 4), .load 3 (.tmp 3), none⟩,
    ⟨(some 5), .call ⟨.value (.func 91), #[(.tmp 4), (.const (.int .i64 1)), (.const (.int .i64 999))], #[3, 3, 3]⟩, none⟩,
    ⟨(some 6), .unOp .not 4 (.tmp 5), none⟩,
    ⟨(some 7), .move (.tmp 6), none⟩,
    ⟨(some 8), .fieldAddr 27 (.tmp 1) 1, (some (some 7, false))⟩,
    ⟨(some 9), .load 3 (.tmp 8), (some (some 7, false))⟩,
    ⟨(some 10), .call ⟨.value (.func 134), #[(.tmp 9)], #[3]⟩, (some (some 7, false))⟩,
    ⟨(some 11), .unOp .not 4 (.tmp 10), (some (some 7, false))⟩,
    ⟨(some 12), .pick (.tmp 7) (.const (.bool true)) (.tmp 11), none⟩,
    ⟨(some 13), .move (.tmp 12), none⟩,
    ⟨(some 14), .fieldAddr 27 (.tmp 1) 2, (some (some 13, false))⟩,
    ⟨(some 15), .load 3 (.tmp 14), (some (some 13, false))⟩,
    ⟨(some 16), .call ⟨.value (.func 135), #[(.tmp 15)], #[3]⟩, (some (some 13, false))⟩,
    ⟨(some 17), .unOp .not 4 (.tmp 16), (some (some 13, false))⟩,
    ⟨(some 18), .pick (.tmp 13) (.const (.bool true)) (.tmp 17), none⟩,
    ⟨(some 19), .move (.tmp 18), none⟩,
    ⟨(some 20), .fieldAddr 27 (.tmp 1) 3, (some (some 19, false))⟩,
    ⟨(some 21), .load 3 (.tmp 20), (some (some 19, false))⟩,
    ⟨(some 22), .call ⟨.value (.func 136), #[(.tmp 21)], #[3]⟩, (some (some 19, false))⟩,
    ⟨(some 23), .unOp .not 4 (.tmp 22), (some (some 19, false))⟩,
    ⟨(some 24), .pick (.tmp 19) (.const (.bool true)) (.tmp 23), none⟩,
    ⟨(some 25), .move (.tmp 24), none⟩,
    ⟨(some 26), .fieldAddr 27 (.tmp 1) 4, (some (some 25, false))⟩,
    ⟨(some 27), .load 3 (.tmp 26), (some (some 25, false))⟩,
    ⟨(some 28), .call ⟨.value (.func 137), #[(.tmp 27)], #[3]⟩, (some (some 25, false))⟩,
    ⟨(some 29), .unOp .not 4 (.tmp 28), (some (some 25, false))⟩,
    ⟨(some 30), .pick (.tmp 25) (.const (.bool true)) (.tmp 29), none⟩] [1, 30])
  (.cond (.tmp 30) (.seq (.reg [⟨(some 2), .assign (.const (.bool false)), none⟩] [2])
  .ret)
  .skip))
  (.seq (.reg [⟨(some 31), .fieldAddr 27 (.tmp 1) 5, none⟩,
    ⟨(some 32), .load 3 (.tmp 31), none⟩,
    ⟨(some 33), .call ⟨.value (.func 107), #[(.tmp 32)], #[3]⟩, none⟩,
    ⟨(some 34), .move (.tmp 33), none⟩,
    ⟨(some 35), .fieldAddr 27 (.tmp 1) 6, (some (some 34, true))⟩,
    ⟨(some 36), .load 3 (.tmp 35), (some (some 34, true))⟩,
    ⟨(some 37), .call ⟨.value (.func 107), #[(.tmp 36)], #[3]⟩, (some (some 34, true))⟩,
    ⟨(some 38), .pick (.tmp 34) (.tmp 37) (.const (.bool false)), none⟩,
    ⟨(some 39), .move (.tmp 38), none⟩,
    ⟨(some 40), .fieldAddr 27 (.tmp 1) 5, (some (some 39, true))⟩,
    ⟨(some 41), .load 3 (.tmp 40), (some (some 39, true))⟩,
    ⟨(some 42), .fieldAddr 27 (.tmp 1) 6, (some (some 39, true))⟩,
    ⟨(some 43), .load 3 (.tmp 42), (some (some 39, true))⟩,
    ⟨(some 44), .binOp .neq 3 (.tmp 41) (.tmp 43) 3, (some (some 39, true))⟩,
    ⟨(some 45), .pick (.tmp 39) (.tmp 44) (.const (.bool false)), none⟩,
    ⟨(some 46), .move (.tmp 45), none⟩,
    ⟨(some 47), .fieldAddr 27 (.tmp 1) 8, (some (some 46, true))⟩,
    ⟨(some 48), .load 3 (.tmp 47), (some (some 46, true))⟩,
    ⟨(some 49), .call ⟨.value (.func 138), #[(.tmp 48)], #[3]⟩, (some (some 46, true))⟩,
    ⟨(some 50), .pick (.tmp 46) (.tmp 49) (.const (.bool false)), none⟩,
    ⟨(some 51), .move (.tmp 50), none⟩,
    ⟨(some 52), .fieldAddr 27 (.tmp 1) 7, (some (some 51, true))⟩,
    ⟨(some 53), .load 3 (.tmp 52), (some (some 51, true))⟩,
    ⟨(some 54), .fieldAddr 27 (.tmp 1) 8, (some (some 51, true))⟩,
    ⟨(some 55), .load 3 (.tmp 54), (some (some 51, true))⟩,
    ⟨(some 56), .call ⟨.value (.func 91), #[(.tmp 53), (.const (.int .i64 0)), (.tmp 55)], #[3, 3, 3]⟩, (some (some 51, true))⟩,
    ⟨(some 57), .pick (.tmp 51) (.tmp 56) (.const (.bool false)), none⟩,
    ⟨(some 2), .assign (.tmp 57), none⟩] [2])
  .ret)))
theorem spec_l10One_k : fnOk Try.prog (fun _ => false) 76 = some (spec_l10One_c.strip, 58, [.tmp 2]) := by kernel_rfl
/-- head: [1, 2, 3, 12, 13, 14] -/
def impl_rateFor_l0 : ACode := (.seq (.reg [⟨(some 15), .binOp .lss 3 (.tmp 14) (.tmp 13) 3, none⟩] [1, 2, 3, 12, 13, 14, 15])
  (.seq (.cond (.tmp 15) .skip
  (.exit 0))
  (.seq (.block 1 (.seq (.reg [⟨(some 16), .indexAddr 24 (.tmp 12) (.tmp 14), none⟩,
    ⟨(some 17), .load 122 (.tmp 16), none⟩,
    ⟨(some 11), .alloc 122, none⟩,
    ⟨none, .store 122 (.tmp 11) (.tmp 17), none⟩] [1, 2, 3, 11, 12, 13, 14])
  (.seq (.reg [⟨(some 18), .fieldAddr 122 (.tmp 11) 0, none⟩,
    ⟨(some 19), .load 3 (.tmp 18), none⟩,
    ⟨(some 20), .move (.tmp 2), none⟩,
    ⟨(some 21), .binOp .eql 3 (.tmp 19) (.tmp 20) 3, none⟩,
    ⟨(some 22), .move (.tmp 21), none⟩,
    ⟨(some 23), .fieldAddr 122 (.tmp 11) 1, (some (some 22, true))⟩,
    ⟨(some 24), .load 3 (.tmp 23), (some (some 22, true))⟩,
    ⟨(some 25), .move (.tmp 3), (some (some 22, true))⟩,
    ⟨(some 26), .binOp .geq 3 (.tmp 24) (.tmp 25) 3, (some (some 22, true))⟩,
    ⟨(some 27), .pick (.tmp 22) (.tmp 26) (.const (.bool false)), none⟩,
    ⟨(some 28), .move (.tmp 27), none⟩,
    ⟨(some 29), .move (.tmp 1), (some (some 28, true))⟩,
    ⟨(some 30), .fieldAddr 122 (.tmp 11) 2, (some (some 28, true))⟩,
    ⟨(some 31), .load 3 (.tmp 30), (some (some 28, true))⟩,
    ⟨(some 32), .fieldAddr 122 (.tmp 11) 3, (some (some 28, true))⟩,
    ⟨(some 33), .load 3 (.tmp 32), (some (some 28, true))⟩,
    ⟨(some 34), .call ⟨.value (.func 90), #[(.tmp 29), (.tmp 31), (.tmp 33)], #[3, 3, 3]⟩, (some (some 28, true))⟩,
    ⟨(some 35), .pick (.tmp 28) (.tmp 34) (.const (.bool false)), none⟩] [1, 2, 3, 11, 12, 13, 14, 35])
  (.cond (.tmp 35) (.seq (.reg [⟨(some 36), .fieldAddr 122 (.tmp 11) 4, none⟩,
    ⟨(some 37), .load 3 (.tmp 36), none⟩,
    ⟨(some 8), .assign (.tmp 37), none⟩,
    ⟨(some 9), .assign (.const (.bool true)), none⟩] [8, 9])
  .ret)
  .skip))))
  (.reg [⟨(some 38), .binOp .add 3 (.tmp 14) (.const (.int .i64 1)) 3, none⟩,
    ⟨(some 14), .move (.tmp 38), none⟩] [1, 2, 3, 12, 13, 14]))))
/-- loop.example/g01062/impl.rateFor: number 78, params [0, 1, 2, 3] -/
def impl_rateFor_c : ACode := (.seq (.reg [⟨(some 8), .assign (.const (.int .i64 0)), none⟩,
    ⟨(some 9), .assign (.const (.bool false)), none⟩] [0, 1, 2, 3])
  (.seq (.seq (.reg [⟨(some 12), .move (.tmp 0), none⟩,
    ⟨(some 13), .call ⟨.builtin .len, #[(.tmp 12)], #[24]⟩, none⟩,
    ⟨(some 14), .move (.const (.int .i64 0)), none⟩] [1, 2, 3, 12, 13, 14])
  (.block 0 (.loop impl_rateFor_l0)))
  (.seq (.reg [⟨(some 8), .assign (.const (.int .i64 0)), none⟩,
    ⟨(some 9), .assign (.const (.bool false)), none⟩] [8, 9])
  .ret)))
theorem impl_rateFor_k : fnOk Try.prog (fun _ => false) 78 = some (impl_rateFor_c.strip, 39, [.tmp 8, .tmp 9]) := by kernel_rfl
/-- head: [0, 1, 2, 3, 9] -/
def spec_l8For_l0 : ACode := (.seq (.seq (.reg [⟨(some 11), .move (.tmp 9), none⟩,
    ⟨(some 12), .move (.tmp 0), none⟩,
    ⟨(some 13), .call ⟨.builtin .len, #[(.tmp 12)], #[24]⟩, none⟩,
    ⟨(some 14), .binOp .lss 3 (.tmp 11) (.tmp 13) 3, none⟩] [0, 1, 2, 3, 9, 14])
  (.cond (.tmp 14) .skip
  (.exit 0)))
  (.seq (.block 1 (.seq (.reg [⟨(some 17), .move (.tmp 0), none⟩,
    ⟨(some 18), .move (.tmp 9), none⟩,
    ⟨(some 19), .indexAddr 24 (.tmp 17) (.tmp 18), none⟩,
    ⟨(some 20), .load 122 (.tmp 19), none⟩,
    ⟨(some 10), .alloc 122, none⟩,
    ⟨none, .store 122 (.tmp 10) (.tmp 20), none⟩] [0, 1, 2, 3, 9, 10])
  (.seq (.reg [⟨(some 21), .fieldAddr 122 (.tmp 10) 0, none⟩,
    ⟨(some 22), .load 3 (.tmp 21), none⟩,
    ⟨(some 23), .move (.tmp 2), none⟩,
    ⟨(some 24), .binOp .eql 3 (.tmp 22) (.tmp 23) 3, none⟩,
    ⟨(some 25), .move (.tmp 24), none⟩,
    ⟨(some 26), .fieldAddr 122 (.tmp 10) 1, (some (some 25, true))⟩,
    ⟨(some 27), .load 3 (.tmp 26), (some (some 25, true))⟩,
    ⟨(some 28), .move (.tmp 3), (some (some 25, true))⟩,
    ⟨(some 29), .binOp .geq 3 (.tmp 27) (.tmp 28) 3, (some (some 25, true))⟩,
    ⟨(some 30), .pick (.tmp 25) (.tmp 29) (.const (.bool false)), none⟩,
    ⟨(some 31), .move (.tmp 30), none⟩,
    ⟨(some 32), .move (.tmp 1), (some (some 31, true))⟩,
    ⟨(some 33), .fieldAddr 122 (.tmp 10) 2, (some (some 31, true))⟩,
    ⟨(some 34), .load 3 (.tmp 33), (some (some 31, true))⟩,
    ⟨(some 35), .fieldAddr 122 (.tmp 10) 3, (some (some 31, true))⟩,
    ⟨(some 36), .load 3 (.tmp 35), (some (some 31, true))⟩,
    ⟨(some 37), .call ⟨.value (.func 91), #[(.tmp 32), (.tmp 34), (.tmp 36)], #[3, 3, 3]⟩, (some (some 31, true))⟩,
    ⟨(some 38), .pick (.tmp 31) (.tmp 37) (.const (.bool false)), none⟩] [0, 1, 2, 3, 9, 10, 38])
  (.cond (.tmp 38) (.seq (.reg [⟨(some 39), .fieldAddr 122 (.tmp 10) 4, none⟩,
    ⟨(some 40), .load 3 (.tmp 39), none⟩,
    ⟨(some 8), .assign (.tmp 40), none⟩] [8])
  .ret)
  .skip))))
  (.reg [⟨(some 15), .move (.tmp 9), none⟩,
    ⟨(some 16), .binOp .add 3 (.tmp 15) (.const (.int .i64 1)) 3, none⟩,
    ⟨(some 9), .assign (.tmp 16), none⟩] [0, 1, 2, 3, 9])))
/-- loop.example/g01062/spec.l8For: number 79, params [0, 1, 2, 3] -/
def spec_l8For_c : ACode := (.seq (.reg [⟨(some 8), .assign (.const (.int .i64 0)), none⟩] [0, 1, 2, 3])
  (.seq (.seq (.reg [⟨(some 9), .assign (.const (.int .i64 0)), none⟩] [0, 1, 2, 3, 9])
  (.block 0 (.loop spec_l8For_l0)))
  (.seq (.reg [⟨(some 8), .assign (.const (.int .i64 0)), none⟩] [8])
  .ret)))
theorem spec_l8For_k : fnOk Try.prog (fun _ => false) 79 = some (spec_l8For_c.strip, 41, [.tmp 8]) := by kernel_rfl
/-- loop.example/g01062/spec.l1Most: number 80, params [0, 1] -/
def spec_l1Most_c : ACode := (.seq (.reg [⟨(some 4), .assign (.const (.int .i64 0)), none⟩] [0, 1])
  (.seq (.seq (.reg [⟨(some 5), .move (.tmp 0), none⟩,
    ⟨(some 6), .move (.tmp 1), none⟩,
    ⟨(some 7), .binOp .gtr 3 (.tmp 5) (.tmp 6) 3, none⟩] [0, 1, 7])
  (.cond (.tmp 7) (.seq (.reg [⟨(some 8), .move (.tmp 0), none⟩,
    ⟨(some 4), .assign (.tmp 8), none⟩] [4])
  .ret)
  .skip))
  (.seq (.reg [⟨(some 9), .move (.tmp 1), none⟩,
    ⟨(some 4), .assign (.tmp 9), none⟩] [4])
  .ret)))
theorem spec_l1Most_k : fnOk Try.prog (fun _ => false) 80 = some (spec_l1Most_c.strip, 10, [.tmp 4]) := by kernel_rfl
/-- loop.example/g01062/impl.isOffice: number 83, params [0] -/
def impl_isOffice_c : ACode := (.seq (.reg [⟨(some 2), .assign (.const (.bool false)), none⟩] [0])
  (.seq (.reg [⟨(some 3), .move (.tmp 0), none⟩,
    ⟨(some 4), .call ⟨.value (.func 90), #[(.tmp 3), (.const (.int .i64 0)), (.const (.int .i64 9))], #[3, 3, 3]⟩, none⟩,
    ⟨(some 2), .assign (.tmp 4), none⟩] [2])
  .ret))
theorem impl_isOffice_k : fnOk Try.prog (fun _ => false) 83 = some (impl_isOffice_c.strip, 5, [.tmp 2]) := by kernel_rfl
/-- loop.example/g01062/impl.isMinute: number 84, params [0] -/
def impl_isMinute_c : ACode := (.seq (.reg [⟨(some 2), .assign (.const (.bool false)), none⟩] [0])
  (.seq (.reg [⟨(some 3), .move (.tmp 0), none⟩,
    ⟨(some 4), .call ⟨.value (.func 90), #[(.tmp 3), (.const (.int .i64 0)), (.const (.int .i64 9999))], #[3, 3, 3]⟩, none⟩,
    ⟨(some 2), .assign (.tmp 4), none⟩] [2])
  .ret))
theorem impl_isMinute_k : fnOk Try.prog (fun _ => false) 84 = some (impl_isMinute_c.strip, 5, [.tmp 2]) := by kernel_rfl
/-- loop.example/g01062/impl.inRange: number 90, params [0, 1, 2] -/
def impl_inRange_c : ACode := (.seq (.reg [⟨(some 6), .assign (.const (.bool false)), none⟩] [0, 1, 2])
  (.seq (.reg [⟨(some 7), .move (.tmp 0), none⟩,
    ⟨(some 8), .move (.tmp 1), none⟩,
    ⟨(some 9), .binOp .geq 3 (.tmp 7) (.tmp 8) 3, none⟩,
    ⟨(some 10), .move (.tmp 9), none⟩,
    ⟨(some 11), .move (.tmp 0), (some (some 10, true))⟩,
    ⟨(some 12), .move (.tmp 2), (some (some 10, true))⟩,
    ⟨(some 13), .binOp .leq 3 (.tmp 11) (.tmp 12) 3, (some (some 10, true))⟩,
    ⟨(some 14), .pick (.tmp 10) (.tmp 13) (.const (.bool false)), none⟩,
    ⟨(some 6), .assign (.tmp 14), none⟩] [6])
  .ret))
theorem impl_inRange_k : fnOk Try.prog (fun _ => false) 90 = some (impl_inRange_c.strip, 15, [.tmp 6]) := by kernel_rfl
/-- loop.example/g01062/spec.l1In: number 91, params [0, 1, 2] -/
def spec_l1In_c : ACode := (.seq (.reg [⟨(some 6), .assign (.const (.bool false)), none⟩] [0, 1, 2])
  (.seq (.reg [⟨(some 7), .move (.tmp 0), none⟩,
    ⟨(some 8), .move (.tmp 1), none⟩,
    ⟨(some 9), .binOp .geq 3 (.tmp 7) (.tmp 8) 3, none⟩,
    ⟨(some 10), .move (.tmp 9), none⟩,
    ⟨(some 11), .move (.tmp 0), (some (some 10, true))⟩,
    ⟨(some 12), .move (.tmp 2), (some (some 10, true))⟩,
    ⟨(some 13), .binOp .leq 3 (.tmp 11) (.tmp 12) 3, (some (some 10, true))⟩,
    ⟨(some 14), .pick (.tmp 10) (.tmp 13) (.const (.bool false)), none⟩,
    ⟨(some 6), .assign (.tmp 14), none⟩] [6])
  .ret))
theorem spec_l1In_k : fnOk Try.prog (fun _ => false) 91 = some (spec_l1In_c.strip, 15, [.tmp 6]) := by kernel_rfl
/-- head: [3, 6, 7, 8] -/
def cmp_Or_int__l0 : ACode := (.seq (.reg [⟨(some 9), .binOp .lss 3 (.tmp 8) (.tmp 7) 3, none⟩] [3, 6, 7, 8, 9])
  (.seq (.cond (.tmp 9) .skip
  (.exit 0))
  (.seq (.block 1 (.seq (.reg [⟨(some 10), .indexAddr 33 (.tmp 6) (.tmp 8), none⟩,
    ⟨(some 11), .load 3 (.tmp 10), none⟩,
    ⟨(some 5), .assign (.tmp 11), none⟩] [3, 5, 6, 7, 8])
  (.seq (.reg [⟨(some 12), .move (.tmp 5), none⟩,
    ⟨(some 13), .move (.tmp 3), none⟩,
    ⟨(some 14), .binOp .neq 3 (.tmp 12) (.tmp 13) 3, none⟩] [3, 5, 6, 7, 8, 14])
  (.cond (.tmp 14) (.seq (.reg [⟨(some 15), .move (.tmp 5), none⟩,
    ⟨(some 2), .assign (.tmp 15), none⟩] [2])
  .ret)
  .skip))))
  (.reg [⟨(some 16), .binOp .add 3 (.tmp 8) (.const (.int .i64 1)) 3, none⟩,
    ⟨(some 8), .move (.tmp 16), none⟩] [3, 6, 7, 8]))))
/-- cmp.Or[int]: number 103, params [0] -/
def cmp_Or_int__c : ACode := (.seq (.reg [⟨(some 2), .assign (.const (.int .i64 0)), none⟩] [0])
  (.seq (.reg [⟨(some 3), .assign (.const (.int .i64 0)), none⟩] [0, 3])
  (.seq (.seq (.reg [⟨(some 6), .move (.tmp 0), none⟩,
    ⟨(some 7), .call ⟨.builtin .len, #[(.tmp 6)], #[33]⟩, none⟩,
    ⟨(some 8), .move (.const (.int .i64 0)), none⟩] [3, 6, 7, 8])
  (.block 0 (.loop cmp_Or_int__l0)))
  (.seq (.reg [⟨(some 17), .move (.tmp 3), none⟩,
    ⟨(some 2), .assign (.tmp 17), none⟩] [2])
  .ret))))
theorem cmp_Or_int__k : fnOk Try.prog (fun _ => false) 103 = some (cmp_Or_int__c.strip, 18, [.tmp 2]) := by kernel_rfl
/-- cmp.Compare[int]: number 104, params [0, 1] -/
def cmp_Compare_int__c : ACode := (.seq (.reg [⟨(some 4), .assign (.const (.int .i64 0)), none⟩] [0, 1])
  (.seq (.reg [⟨(some 7), .move (.tmp 0), none⟩,
    ⟨(some 8), .call ⟨.value (.func 152), #[(.tmp 7)], #[3]⟩, none⟩,
    ⟨(some 5), .assign (.tmp 8), none⟩] [0, 1, 5])
  (.seq (.reg [⟨(some 9), .move (.tmp 1), none⟩,
    ⟨(some 10), .call ⟨.value (.func 152), #[(.tmp 9)], #[3]⟩, none⟩,
    ⟨(some 6), .assign (.tmp 10), none⟩] [0, 1, 5, 6])
  (.seq (.seq (.reg [⟨(some 11), .move (.tmp 5), none⟩] [0, 1, 6, 11])
  (.cond (.tmp 11) (.seq (.seq (.reg [⟨(some 12), .move (.tmp 6), none⟩] [12])
  (.cond (.tmp 12) (.seq (.reg [⟨(some 4), .assign (.const (.int .i64 0)), none⟩] [4])
  .ret)
  .skip))
  (.seq (.reg [⟨(some 4), .assign (.const (.int .i64 (-1))), none⟩] [4])
  .ret))
  .skip))
  (.seq (.seq (.reg [⟨(some 13), .move (.tmp 6), none⟩] [0, 1, 13])
  (.cond (.tmp 13) (.seq (.reg [⟨(some 4), .assign (.const (.int .i64 1)), none⟩] [4])
  .ret)
  .skip))
  (.seq (.seq (.reg [⟨(some 14), .move (.tmp 0), none⟩,
    ⟨(some 15), .move (.tmp 1), none⟩,
    ⟨(some 16), .binOp .lss 3 (.tmp 14) (.tmp 15) 3, none⟩] [0, 1, 16])
  (.cond (.tmp 16) (.seq (.reg [⟨(some 4), .assign (.const (.int .i64 (-1))), none⟩] [4])
  .ret)
  .skip))
  (.seq (.seq (.reg [⟨(some 17), .move (.tmp 0), none⟩,
    ⟨(some 18), .move (.tmp 1), none⟩,
    ⟨(some 19), .binOp .gtr 3 (.tmp 17) (.tmp 18) 3, none⟩] [19])
  (.cond (.tmp 19) (.seq (.reg [⟨(some 4), .assign (.const (.int .i64 1)), none⟩] [4])
  .ret)
  .skip))
  (.seq (.reg [⟨(some 4), .assign (.const (.int .i64 0)), none⟩] [4])
  .ret))))))))
theorem cmp_Compare_int__k : fnOk Try.prog (fun _ => false) 104 = some (cmp_Compare_int__c.strip, 20, [.tmp 4]) := by kernel_rfl
/-- loop.example/g01062/spec.l9Office: number 107, params [0] -/
def spec_l9Office_c : ACode := (.seq (.reg [⟨(some 2), .assign (.const (.bool false)), none⟩] [0])
  (.seq (.reg [⟨(some 3), .move (.tmp 0), none⟩,
    ⟨(some 4), .call ⟨.value (.func 91), #[(.tmp 3), (.const (.int .i64 0)), (.const (.int .i64 9))], #[3, 3, 3]⟩, none⟩,
    ⟨(some 2), .assign (.tmp 4), none⟩] [2])
  .ret))
theorem spec_l9Office_k : fnOk Try.prog (fun _ => false) 107 = some (spec_l9Office_c.strip, 5, [.tmp 2]) := by kernel_rfl
/-- loop.example/g01062/impl.isRate: number 125, params [0] -/
def impl_isRate_c : ACode := (.seq (.reg [⟨(some 1), .box 122 (.tmp 0), none⟩,
    ⟨(some 2), .assign (.const (.bool false)), none⟩] [1])
  (.seq (.reg [⟨(some 3), .fieldAddr 122 (.tmp 1) 0, none⟩,
    ⟨(some 4), .load 3 (.tmp 3), none⟩,
    ⟨(some 5), .call ⟨.value (.func 128), #[(.tmp 4)], #[3]⟩, none⟩,
    ⟨(some 6), .move (.tmp 5), none⟩,
    ⟨(some 7), .fieldAddr 122 (.tmp 1) 1, (some (some 6, true))⟩,
    ⟨(some 8), .load 3 (.tmp 7), (some (some 6, true))⟩,
    ⟨(some 9), .call ⟨.value (.func 129), #[(.tmp 8)], #[3]⟩, (some (some 6, true))⟩,
    ⟨(some 10), .pick (.tmp 6) (.tmp 9) (.const (.bool false)), none⟩,
    ⟨(some 11), .move (.tmp 10), none⟩,
    ⟨(some 12), .fieldAddr 122 (.tmp 1) 2, (some (some 11, true))⟩,
    ⟨(some 13), .load 3 (.tmp 12), (some (some 11, true))⟩,
    ⟨(some 14), .call ⟨.value (.func 127), #[(.tmp 13)], #[3]⟩, (some (some 11, true))⟩,
    ⟨(some 15), .pick (.tmp 11) (.tmp 14) (.const (.bool false)), none⟩,
    ⟨(some 16), .move (.tmp 15), none⟩,
    ⟨(some 17), .fieldAddr 122 (.tmp 1) 3, (some (some 16, true))⟩,
    ⟨(some 18), .load 3 (.tmp 17), (some (some 16, true))⟩,
    ⟨(some 19), .call ⟨.value (.func 127), #[(.tmp 18)], #[3]⟩, (some (some 16, true))⟩,
    ⟨(some 20), .pick (.tmp 16) (.tmp 19) (.const (.bool false)), none⟩,
    ⟨(some 21), .move (.tmp 20), none⟩,
    ⟨(some 22), .fieldAddr 122 (.tmp 1) 2, (some (some 21, true))⟩,
    ⟨(some 23), .load 3 (.tmp 22), (some (some 21, true))⟩,
    ⟨(some 24), .fieldAddr 122 (.tmp 1) 3, (some (some 21, true))⟩,
    ⟨(some 25), .load 3 (.tmp 24), (some (some 21, true))⟩,
    ⟨(some 26), .binOp .leq 3 (.tmp 23) (.tmp 25) 3, (some (some 21, true))⟩,
    ⟨(some 27), .pick (.tmp 21) (.tmp 26) (.const (.bool false)), none⟩,
    ⟨(some 28), .move (.tmp 27), none⟩,
    ⟨(some 29), .fieldAddr 122 (.tmp 1) 4, (some (some 28, true))⟩,
    ⟨(some 30), .load 3 (.tmp 29), (some (some 28, true))⟩,
    ⟨(some 31), .call ⟨.value (.func 130), #[(.tmp 30)], #[3]⟩, (some (some 28, true))⟩,
    ⟨(some 32), .pick (.tmp 28) (.tmp 31) (.const (.bool false)), none⟩,
    ⟨(some 2), .assign (.tmp 32), none⟩] [2])
  .ret))
theorem impl_isRate_k : fnOk Try.prog (fun _ => false) 125 = some (impl_isRate_c.strip, 33, [.tmp 2]) := by kernel_rfl
/-- loop.example/g01062/impl.isDay: number 127, params [0] -/
def impl_isDay_c : ACode := (.seq (.reg [⟨(some 2), .assign (.const (.bool false)), none⟩] [0])
  (.seq (.reg [⟨(some 3), .move (.tmp 0), none⟩,
    ⟨(some 4), .call ⟨.value (.func 90), #[(.tmp 3), (.const (.int .i64 0)), (.const (.int .i64 4000))], #[3, 3, 3]⟩, none⟩,
    ⟨(some 2), .assign (.tmp 4), none⟩] [2])
  .ret))
theorem impl_isDay_k : fnOk Try.prog (fun _ => false) 127 = some (impl_isDay_c.strip, 5, [.tmp 2]) := by kernel_rfl
/-- loop.example/g01062/impl.isZone: number 128, params [0] -/
def impl_isZone_c : ACode := (.seq (.reg [⟨(some 2), .assign (.const (.bool false)), none⟩] [0])
  (.seq (.reg [⟨(some 3), .move (.tmp 0), none⟩,
    ⟨(some 4), .call ⟨.value (.func 90), #[(.tmp 3), (.const (.int .i64 0)), (.const (.int .i64 9))], #[3, 3, 3]⟩, none⟩,
    ⟨(some 2), .assign (.tmp 4), none⟩] [2])
  .ret))
theorem impl_isZone_k : fnOk Try.prog (fun _ => false) 128 = some (impl_isZone_c.strip, 5, [.tmp 2]) := by kernel_rfl
/-- loop.example/g01062/impl.isWeight: number 129, params [0] -/
def impl_isWeight_c : ACode := (.seq (.reg [⟨(some 2), .assign (.const (.bool false)), none⟩] [0])
  (.seq (.reg [⟨(some 3), .move (.tmp 0), none⟩,
    ⟨(some 4), .call ⟨.value (.func 90), #[(.tmp 3), (.const (.int .i64 1)), (.const (.int .i64 2000))], #[3, 3, 3]⟩, none⟩,
    ⟨(some 2), .assign (.tmp 4), none⟩] [2])
  .ret))
theorem impl_isWeight_k : fnOk Try.prog (fun _ => false) 129 = some (impl_isWeight_c.strip, 5, [.tmp 2]) := by kernel_rfl
/-- loop.example/g01062/impl.isCents: number 130, params [0] -/
def impl_isCents_c : ACode := (.seq (.reg [⟨(some 2), .assign (.const (.bool false)), none⟩] [0])
  (.seq (.reg [⟨(some 3), .move (.tmp 0), none⟩,
    ⟨(some 4), .call ⟨.value (.func 90), #[(.tmp 3), (.const (.int .i64 1)), (.const (.int .i64 9999))], #[3, 3, 3]⟩, none⟩,
    ⟨(some 2), .assign (.tmp 4), none⟩] [2])
  .ret))
theorem impl_isCents_k : fnOk Try.prog (fun _ => false) 130 = some (impl_isCents_c.strip, 5, [.tmp 2]) := by kernel_rfl
/-- loop.example/g01062/spec.l8One: number 132, params [0] -/
def spec_l8One_c : ACode := (.seq (.reg [⟨(some 1), .box 122 (.tmp 0), none⟩,
    ⟨(some 2), .assign (.const (.bool false)), none⟩] [1])
  (.seq (.reg [⟨(some 3), .fieldAddr 122 (.tmp 1) 0, none⟩,
    ⟨(some 4), .load 3 (.tmp 3), none⟩,
    ⟨(some 5), .call ⟨.value (.func 135), #[(.tmp 4)], #[3]⟩, none⟩,
    ⟨(some 6), .move (.tmp 5), none⟩,
    ⟨(some 7), .fieldAddr 122 (.tmp 1) 1, (some (some 6, true))⟩,
    ⟨(some 8), .load 3 (.tmp 7), (some (some 6, true))⟩,
    ⟨(some 9), .call ⟨.value (.func 136), #[(.tmp 8)], #[3]⟩, (some (some 6, true))⟩,
    ⟨(some 10), .pick (.tmp 6) (.tmp 9) (.const (.bool false)), none⟩,
    ⟨(some 11), .move (.tmp 10), none⟩,
    ⟨(some 12), .fieldAddr 122 (.tmp 1) 3, (some (some 11, true))⟩,
    ⟨(some 13), .load 3 (.tmp 12), (some (some 11, true))⟩,
    ⟨(some 14), .call ⟨.value (.func 134), #[(.tmp 13)], #[3]⟩, (some (some 11, true))⟩,
    ⟨(some 15), .pick (.tmp 11) (.tmp 14) (.const (.bool false)), none⟩,
    ⟨(some 16), .move (.tmp 15), none⟩,
    ⟨(some 17), .fieldAddr 122 (.tmp 1) 2, (some (some 16, true))⟩,
    ⟨(some 18), .load 3 (.tmp 17), (some (some 16, true))⟩,
    ⟨(some 19), .fieldAddr 122 (.tmp 1) 3, (some (some 16, true))⟩,
    ⟨(some 20), .load 3 (.tmp 19), (some (some 16, true))⟩,
    ⟨(some 21), .call ⟨.value (.func 91), #[(.tmp 18), (.const (.int .i64 0)), (.tmp 20)], #[3, 3, 3]⟩, (some (some 16, true))⟩,
    ⟨(some 22), .pick (.tmp 16) (.tmp 21) (.const (.bool false)), none⟩,
    ⟨(some 23), .move (.tmp 22), none⟩,
    ⟨(some 24), .fieldAddr 122 (.tmp 1) 4, (some (some 23, true))⟩,
    ⟨(some 25), .load 3 (.tmp 24), (some (some 23, true))⟩,
    ⟨(some 26), .call ⟨.value (.func 137), #[(.tmp 25)], #[3]⟩, (some (some 23, true))⟩,
    ⟨(some 27), .pick (.tmp 23) (.tmp 26) (.const (.bool false)), none⟩,
    ⟨(some 2), .assign (.tmp 27), none⟩] [2])
  .ret))
theorem spec_l8One_k : fnOk Try.prog (fun _ => false) 132 = some (spec_l8One_c.strip, 28, [.tmp 2]) := by kernel_rfl
/-- loop.example/g01062/spec.l8Code: number 133, params [0] -/
def spec_l8Code_c : ACode := (.seq (.reg [⟨(some 1), .box 122 (.tmp 0), none⟩,
    ⟨(some 2), .assign (.const (.int .i64 0)), none⟩] [1])
  (.seq (.reg [⟨(some 3), .fieldAddr 122 (.tmp 1) 0, none⟩,
    ⟨(some 4), .load 3 (.tmp 3), none⟩,
    ⟨(some 5), .binOp .mul 3 (.const (.int .i64 10000)) (.tmp 4) 3, none⟩,
    ⟨(some 6), .fieldAddr 122 (.tmp 1) 1, none⟩,
    ⟨(some 7), .load 3 (.tmp 6), none⟩,
    ⟨(some 8), .binOp .add 3 (.tmp 5) (.tmp 7) 3, none⟩,
    ⟨(some 9), .binOp .mul 3 (.tmp 8) (.const (.int .i64 10000)) 3, none⟩,
    ⟨(some 10), .fieldAddr 122 (.tmp 1) 2, none⟩,
    ⟨(some 11), .load 3 (.tmp 10), none⟩,
    ⟨(some 12), .binOp .add 3 (.tmp 9) (.tmp 11) 3, none⟩,
    ⟨(some 2), .assign (.tmp 12), none⟩] [2])
  .ret))
theorem spec_l8Code_k : fnOk Try.prog (fun _ => false) 133 = some (spec_l8Code_c.strip, 13, [.tmp 2]) := by kernel_rfl
/-- loop.example/g01062/spec.l2Day: number 134, params [0] -/
def spec_l2Day_c : ACode := (.seq (.reg [⟨(some 2), .assign (.const (.bool false)), none⟩] [0])
  (.seq (.reg [⟨(some 3), .move (.tmp 0), none⟩,
    ⟨(some 4), .call ⟨.value (.func 91), #[(.tmp 3), (.const (.int .i64 0)), (.const (.int .i64 4000))], #[3, 3, 3]⟩, none⟩,
    ⟨(some 2), .assign (.tmp 4), none⟩] [2])
  .ret))
theorem spec_l2Day_k : fnOk Try.prog (fun _ => false) 134 = some (spec_l2Day_c.strip, 5, [.tmp 2]) := by kernel_rfl
/-- loop.example/g01062/spec.l8Zone: number 135, params [0] -/
def spec_l8Zone_c : ACode := (.seq (.reg [⟨(some 2), .assign (.const (.bool false)), none⟩] [0])
  (.seq (.reg [⟨(some 3), .move (.tmp 0), none⟩,
    ⟨(some 4), .call ⟨.value (.func 91), #[(.tmp 3), (.const (.int .i64 0)), (.const (.int .i64 9))], #[3, 3, 3]⟩, none⟩,
    ⟨(some 2), .assign (.tmp 4), none⟩] [2])
  .ret))
theorem spec_l8Zone_k : fnOk Try.prog (fun _ => false) 135 = some (spec_l8Zone_c.strip, 5, [.tmp 2]) := by kernel_rfl
/-- loop.example/g01062/spec.l8Grams: number 136, params [0] -/
def spec_l8Grams_c : ACode := (.seq (.reg [⟨(some 2), .assign (.const (.bool false)), none⟩] [0])
  (.seq (.reg [⟨(some 3), .move (.tmp 0), none⟩,
    ⟨(some 4), .call ⟨.value (.func 91), #[(.tmp 3), (.const (.int .i64 1)), (.const (.int .i64 2000))], #[3, 3, 3]⟩, none⟩,
    ⟨(some 2), .assign (.tmp 4), none⟩] [2])
  .ret))
theorem spec_l8Grams_k : fnOk Try.prog (fun _ => false) 136 = some (spec_l8Grams_c.strip, 5, [.tmp 2]) := by kernel_rfl
/-- loop.example/g01062/spec.l8Cents: number 137, params [0] -/
def spec_l8Cents_c : ACode := (.seq (.reg [⟨(some 2), .assign (.const (.bool false)), none⟩] [0])
  (.seq (.reg [⟨(some 3), .move (.tmp 0), none⟩,
    ⟨(some 4), .call ⟨.value (.func 91), #[(.tmp 3), (.const (.int .i64 1)), (.const (.int .i64 9999))], #[3, 3, 3]⟩, none⟩,
    ⟨(some 2), .assign (.tmp 4), none⟩] [2])
  .ret))
theorem spec_l8Cents_k : fnOk Try.prog (fun _ => false) 137 = some (spec_l8Cents_c.strip, 5, [.tmp 2]) := by kernel_rfl
/-- loop.example/g01062/spec.l9Minute: number 138, params [0] -/
def spec_l9Minute_c : ACode := (.seq (.reg [⟨(some 2), .assign (.const (.bool false)), none⟩] [0])
  (.seq (.reg [⟨(some 3), .move (.tmp 0), none⟩,
    ⟨(some 4), .call ⟨.value (.func 91), #[(.tmp 3), (.const (.int .i64 0)), (.const (.int .i64 9999))], #[3, 3, 3]⟩, none⟩,
    ⟨(some 2), .assign (.tmp 4), none⟩] [2])
  .ret))
theorem spec_l9Minute_k : fnOk Try.prog (fun _ => false) 138 = some (spec_l9Minute_c.strip, 5, [.tmp 2]) := by kernel_rfl
/-- cmp.isNaN[int]: number 152, params [0] -/
def cmp_isNaN_int__c : ACode := (.seq (.reg [⟨(some 2), .assign (.const (.bool false)), none⟩] [0])
  (.seq (.reg [⟨(some 3), .move (.tmp 0), none⟩,
    ⟨(some 4), .move (.tmp 0), none⟩,
    ⟨(some 5), .binOp .neq 3 (.tmp 3) (.tmp 4) 3, none⟩,
    ⟨(some 2), .assign (.tmp 5), none⟩] [2])
  .ret))
theorem cmp_isNaN_int__k : fnOk Try.prog (fun _ => false) 152 = some (cmp_isNaN_int__c.strip, 6, [.tmp 2]) := by kernel_rfl
/-- loop.example/g01062/spec.l1Least: number 158, params [0, 1] -/
def spec_l1Least_c : ACode := (.seq (.reg [⟨(some 4), .assign (.const (.int .i64 0)), none⟩] [0, 1])
  (.seq (.seq (.reg [⟨(some 5), .move (.tmp 0), none⟩,
    ⟨(some 6), .move (.tmp 1), none⟩,
    ⟨(some 7), .binOp .lss 3 (.tmp 5) (.tmp 6) 3, none⟩] [0, 1, 7])
  (.cond (.tmp 7) (.seq (.reg [⟨(some 8), .move (.tmp 0), none⟩,
    ⟨(some 4), .assign (.tmp 8), none⟩] [4])
  .ret)
  .skip))
  (.seq (.reg [⟨(some 9), .move (.tmp 1), none⟩,
    ⟨(some 4), .assign (.tmp 9), none⟩] [4])
  .ret)))
theorem spec_l1Least_k : fnOk Try.prog (fun _ => false) 158 = some (spec_l1Least_c.strip, 10, [.tmp 4]) := by kernel_rfl
/-- math/bits.Mul: number 166, params [0, 1] -/
def math_bits_Mul_c : ACode := (.seq (.reg [⟨(some 4), .assign (.const (.int .u64 0)), none⟩,
    ⟨(some 5), .assign (.const (.int .u64 0)), none⟩] [0, 1])
  (.seq (.cond (.const (.bool false)) (.seq (.reg [⟨(some 11), .move (.tmp 0), none⟩,
    ⟨(some 12), .convert 141 157 (.tmp 11), none⟩,
    ⟨(some 13), .move (.tmp 1), none⟩,
    ⟨(some 14), .convert 141 157 (.tmp 13), none⟩,
    ⟨(some 15), .call ⟨.value (.func 180), #[(.tmp 12), (.tmp 14)], #[157, 157]⟩, none⟩,
    ⟨(some 10), .move (.tmp 15), none⟩,
    ⟨(some 16), .extract (.tmp 10) 0, none⟩,
    ⟨(some 17), .extract (.tmp 10) 1, none⟩,
    ⟨(some 6), .assign (.tmp 16), none⟩,
    ⟨(some 7), .assign (.tmp 17), none⟩] [6, 7])
  (.seq (.reg [⟨(some 18), .move (.tmp 6), none⟩,
    ⟨(some 19), .convert 157 141 (.tmp 18), none⟩,
    ⟨(some 20), .move (.tmp 7), none⟩,
    ⟨(some 21), .convert 157 141 (.tmp 20), none⟩,
    ⟨(some 4), .assign (.tmp 19), none⟩,
    ⟨(some 5), .assign (.tmp 21), none⟩] [4, 5])
  .ret))
  .skip)
  (.seq (.reg [⟨(some 23), .move (.tmp 0), none⟩,
    ⟨(some 24), .move (.tmp 1), none⟩,
    ⟨(some 25), .call ⟨.value (.func 181), #[(.tmp 23), (.tmp 24)], #[86, 86]⟩, none⟩,
    ⟨(some 22), .move (.tmp 25), none⟩,
    ⟨(some 26), .extract (.tmp 22) 0, none⟩,
    ⟨(some 27), .extract (.tmp 22) 1, none⟩,
    ⟨(some 8), .assign (.tmp 26), none⟩,
    ⟨(some 9), .assign (.tmp 27), none⟩] [8, 9])
  (.seq (.reg [⟨(some 28), .move (.tmp 8), none⟩,
    ⟨(some 29), .move (.tmp 9), none⟩,
    ⟨(some 4), .assign (.tmp 28), none⟩,
    ⟨(some 5), .assign (.tmp 29), none⟩] [4, 5])
  .ret))))
theorem math_bits_Mul_k : fnOk Try.prog (fun _ => false) 166 = some (math_bits_Mul_c.strip, 30, [.tmp 4, .tmp 5]) := by kernel_rfl
/-- math/bits.Mul32: number 180, params [0, 1] -/
def math_bits_Mul32_c : ACode := (.seq (.reg [⟨(some 4), .assign (.const (.int .u32 0)), none⟩,
    ⟨(some 5), .assign (.const (.int .u32 0)), none⟩] [0, 1])
  (.seq (.reg [⟨(some 7), .move (.tmp 0), none⟩,
    ⟨(some 8), .convert 157 86 (.tmp 7), none⟩,
    ⟨(some 9), .move (.tmp 1), none⟩,
    ⟨(some 10), .convert 157 86 (.tmp 9), none⟩,
    ⟨(some 11), .binOp .mul 86 (.tmp 8) (.tmp 10) 86, none⟩,
    ⟨(some 6), .assign (.tmp 11), none⟩] [6])
  (.seq (.reg [⟨(some 12), .move (.tmp 6), none⟩,
    ⟨(some 13), .binOp .shr 86 (.tmp 12) (.const (.int .u64 32)) 141, none⟩,
    ⟨(some 14), .convert 86 157 (.tmp 13), none⟩,
    ⟨(some 15), .move (.tmp 6), none⟩,
    ⟨(some 16), .convert 86 157 (.tmp 15), none⟩,
    ⟨(some 4), .assign (.tmp 14), none⟩,
    ⟨(some 5), .assign (.tmp 16), none⟩] [4, 5])
  .ret)))
theorem math_bits_Mul32_k : fnOk Try.prog (fun _ => false) 180 = some (math_bits_Mul32_c.strip, 17, [.tmp 4, .tmp 5]) := by kernel_rfl
/-- math/bits.Mul64: number 181, params [0, 1] -/
def math_bits_Mul64_c : ACode := (.seq (.reg [⟨(some 4), .assign (.const (.int .u64 0)), none⟩,
    ⟨(some 5), .assign (.const (.int .u64 0)), none⟩] [0, 1])
  (.seq (.reg [⟨(some 14), .move (.tmp 0), none⟩,
    ⟨(some 15), .binOp .and 86 (.tmp 14) (.const (.int .u64 4294967295)) 86, none⟩,
    ⟨(some 6), .assign (.tmp 15), none⟩] [0, 1, 6])
  (.seq (.reg [⟨(some 16), .move (.tmp 0), none⟩,
    ⟨(some 17), .binOp .shr 86 (.tmp 16) (.const (.int .u64 32)) 141, none⟩,
    ⟨(some 7), .assign (.tmp 17), none⟩] [0, 1, 6, 7])
  (.seq (.reg [⟨(some 18), .move (.tmp 1), none⟩,
    ⟨(some 19), .binOp .and 86 (.tmp 18) (.const (.int .u64 4294967295)) 86, none⟩,
    ⟨(some 8), .assign (.tmp 19), none⟩] [0, 1, 6, 7, 8])
  (.seq (.reg [⟨(some 20), .move (.tmp 1), none⟩,
    ⟨(some 21), .binOp .shr 86 (.tmp 20) (.const (.int .u64 32)) 141, none⟩,
    ⟨(some 9), .assign (.tmp 21), none⟩] [0, 1, 6, 7, 8, 9])
  (.seq (.reg [⟨(some 22), .move (.tmp 6), none⟩,
    ⟨(some 23), .move (.tmp 8), none⟩,
    ⟨(some 24), .binOp .mul 86 (.tmp 22) (.tmp 23) 86, none⟩,
    ⟨(some 10), .assign (.tmp 24), none⟩] [0, 1, 6, 7, 8, 9, 10])
  (.seq (.reg [⟨(some 25), .move (.tmp 7), none⟩,
    ⟨(some 26), .move (.tmp 8), none⟩,
    ⟨(some 27), .binOp .mul 86 (.tmp 25) (.tmp 26) 86, none⟩,
    ⟨(some 28), .move (.tmp 10), none⟩,
    ⟨(some 29), .binOp .shr 86 (.tmp 28) (.const (.int .u64 32)) 141, none⟩,
    ⟨(some 30), .binOp .add 86 (.tmp 27) (.tmp 29) 86, none⟩,
    ⟨(some 11), .assign (.tmp 30), none⟩] [0, 1, 6, 7, 9, 11])
  (.seq (.reg [⟨(some 31), .move (.tmp 11), none⟩,
    ⟨(some 32), .binOp .and 86 (.tmp 31) (.const (.int .u64 4294967295)) 86, none⟩,
    ⟨(some 12), .assign (.tmp 32), none⟩] [0, 1, 6, 7, 9, 11, 12])
  (.seq (.reg [⟨(some 33), .move (.tmp 11), none⟩,
    ⟨(some 34), .binOp .shr 86 (.tmp 33) (.const (.int .u64 32)) 141, none⟩,
    ⟨(some 13), .assign (.tmp 34), none⟩] [0, 1, 6, 7, 9, 12, 13])
  (.seq (.reg [⟨(some 35), .move (.tmp 12), none⟩,
    ⟨(some 36), .move (.tmp 6), none⟩,
    ⟨(some 37), .move (.tmp 9), none⟩,
    ⟨(some 38), .binOp .mul 86 (.tmp 36) (.tmp 37) 86, none⟩,
    ⟨(some 39), .binOp .add 86 (.tmp 35) (.tmp 38) 86, none⟩,
    ⟨(some 12), .assign (.tmp 39), none⟩] [0, 1, 7, 9, 12, 13])
  (.seq (.reg [⟨(some 40), .move (.tmp 7), none⟩,
    ⟨(some 41), .move (.tmp 9), none⟩,
    ⟨(some 42), .binOp .mul 86 (.tmp 40) (.tmp 41) 86, none⟩,
    ⟨(some 43), .move (.tmp 13), none⟩,
    ⟨(some 44), .binOp .add 86 (.tmp 42) (.tmp 43) 86, none⟩,
    ⟨(some 45), .move (.tmp 12), none⟩,
    ⟨(some 46), .binOp .shr 86 (.tmp 45) (.const (.int .u64 32)) 141, none⟩,
    ⟨(some 47), .binOp .add 86 (.tmp 44) (.tmp 46) 86, none⟩,
    ⟨(some 4), .assign (.tmp 47), none⟩] [0, 1, 4])
  (.seq (.reg [⟨(some 48), .move (.tmp 0), none⟩,
    ⟨(some 49), .move (.tmp 1), none⟩,
    ⟨(some 50), .binOp .mul 86 (.tmp 48) (.tmp 49) 86, none⟩,
    ⟨(some 5), .assign (.tmp 50), none⟩] [4, 5])
  .ret))))))))))))
theorem math_bits_Mul64_k : fnOk Try.prog (fun _ => false) 181 = some (math_bits_Mul64_c.strip, 51, [.tmp 4, .tmp 5]) := by kernel_rfl
end Go.Proofs.Ytjiffkjeijfilaa

