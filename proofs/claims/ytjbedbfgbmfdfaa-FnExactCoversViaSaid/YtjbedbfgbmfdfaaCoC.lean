/- Printed by a program of ours: the functions' abstract code and facts on their types. -/
import Derived.Test.YtjbedbfgbmfdfaaAbsP
import Derived.Test.YtjbedbfgbmfdfaaProg
import Derived.KernelRfl
set_option maxRecDepth 8000
namespace Go.Proofs.Ytjbedbfgbmfdfaa
open Go Go.RowKit
@[simp] theorem dk_3 : dK Try.prog 3 = some (.int .i64) := by kernel_rfl
@[simp] theorem ty_3 : tyK Try.prog 3 = some .cell := by kernel_rfl
@[simp] theorem zero_3 : zeroK Try.prog 3 = some [.int .i64 0] := by kernel_rfl
@[simp] theorem dk_4 : dK Try.prog 4 = some .bool := by kernel_rfl
@[simp] theorem ty_4 : tyK Try.prog 4 = some .cell := by kernel_rfl
@[simp] theorem zero_4 : zeroK Try.prog 4 = some [.bool false] := by kernel_rfl
@[simp] theorem dk_5 : dK Try.prog 5 = some (.int .u8) := by kernel_rfl
@[simp] theorem ty_5 : tyK Try.prog 5 = some .cell := by kernel_rfl
@[simp] theorem zero_5 : zeroK Try.prog 5 = some [.int .u8 0] := by kernel_rfl
@[simp] theorem dk_9 : dK Try.prog 9 = some .str := by kernel_rfl
@[simp] theorem ty_9 : tyK Try.prog 9 = some .cell := by kernel_rfl
@[simp] theorem zero_9 : zeroK Try.prog 9 = some [.str []] := by kernel_rfl
@[simp] theorem sl_22 : slK Try.prog 22 = some (91, 4, 32) := by kernel_rfl
@[simp] theorem dk_22 : dK Try.prog 22 = some .slc := by kernel_rfl
@[simp] theorem ty_22 : tyK Try.prog 22 = some .cell := by kernel_rfl
@[simp] theorem zero_22 : zeroK Try.prog 22 = some [.nils] := by kernel_rfl
@[simp] theorem sl_23 : slK Try.prog 23 = some (93, 9, 72) := by kernel_rfl
@[simp] theorem dk_23 : dK Try.prog 23 = some .slc := by kernel_rfl
@[simp] theorem ty_23 : tyK Try.prog 23 = some .cell := by kernel_rfl
@[simp] theorem zero_23 : zeroK Try.prog 23 = some [.nils] := by kernel_rfl
@[simp] theorem sl_26 : slK Try.prog 26 = some (3, 1, 8) := by kernel_rfl
@[simp] theorem dk_26 : dK Try.prog 26 = some .slc := by kernel_rfl
@[simp] theorem ty_26 : tyK Try.prog 26 = some .cell := by kernel_rfl
@[simp] theorem zero_26 : zeroK Try.prog 26 = some [.nils] := by kernel_rfl
@[simp] theorem sl_29 : slK Try.prog 29 = some (89, 4, 32) := by kernel_rfl
@[simp] theorem dk_29 : dK Try.prog 29 = some .slc := by kernel_rfl
@[simp] theorem ty_29 : tyK Try.prog 29 = some .cell := by kernel_rfl
@[simp] theorem zero_29 : zeroK Try.prog 29 = some [.nils] := by kernel_rfl
@[simp] theorem sl_31 : slK Try.prog 31 = some (51, 9, 72) := by kernel_rfl
@[simp] theorem dk_31 : dK Try.prog 31 = some .slc := by kernel_rfl
@[simp] theorem ty_31 : tyK Try.prog 31 = some .cell := by kernel_rfl
@[simp] theorem zero_31 : zeroK Try.prog 31 = some [.nils] := by kernel_rfl
@[simp] theorem sl_40 : slK Try.prog 40 = some (102, 5, 40) := by kernel_rfl
@[simp] theorem dk_40 : dK Try.prog 40 = some .slc := by kernel_rfl
@[simp] theorem ty_40 : tyK Try.prog 40 = some .cell := by kernel_rfl
@[simp] theorem zero_40 : zeroK Try.prog 40 = some [.nils] := by kernel_rfl
@[simp] theorem sl_43 : slK Try.prog 43 = some (100, 5, 40) := by kernel_rfl
@[simp] theorem dk_43 : dK Try.prog 43 = some .slc := by kernel_rfl
@[simp] theorem ty_43 : tyK Try.prog 43 = some .cell := by kernel_rfl
@[simp] theorem zero_43 : zeroK Try.prog 43 = some [.nils] := by kernel_rfl
@[simp] theorem sl_48 : slK Try.prog 48 = some (5, 1, 1) := by kernel_rfl
@[simp] theorem dk_48 : dK Try.prog 48 = some (.bytes 5) := by kernel_rfl
@[simp] theorem ty_48 : tyK Try.prog 48 = some .cell := by kernel_rfl
@[simp] theorem zero_48 : zeroK Try.prog 48 = some [.nils] := by kernel_rfl
@[simp] theorem ty_51 : tyK Try.prog 51 = some (.obj 9) := by kernel_rfl
@[simp] theorem fld_51_0 : fldK Try.prog 51 0 = some 0 := by kernel_rfl
@[simp] theorem fld_51_1 : fldK Try.prog 51 1 = some 1 := by kernel_rfl
@[simp] theorem fld_51_2 : fldK Try.prog 51 2 = some 2 := by kernel_rfl
@[simp] theorem fld_51_3 : fldK Try.prog 51 3 = some 3 := by kernel_rfl
@[simp] theorem fld_51_4 : fldK Try.prog 51 4 = some 4 := by kernel_rfl
@[simp] theorem fld_51_5 : fldK Try.prog 51 5 = some 5 := by kernel_rfl
@[simp] theorem fld_51_6 : fldK Try.prog 51 6 = some 6 := by kernel_rfl
@[simp] theorem fld_51_7 : fldK Try.prog 51 7 = some 7 := by kernel_rfl
@[simp] theorem fld_51_8 : fldK Try.prog 51 8 = some 8 := by kernel_rfl
@[simp] theorem eqk_51 : eqKs Try.prog 51 = some [0, 0, 0, 0, 0, 0, 0, 0, 0] := by kernel_rfl
@[simp] theorem pl_51 : plK Try.prog 51 = some (some [(0, 1), (1, 1), (2, 1), (3, 1), (4, 1), (5, 1), (6, 1), (7, 1), (8, 1)]) := by kernel_rfl
@[simp] theorem zero_51 : zeroK Try.prog 51 = some [.int .i64 0, .int .i64 0, .int .i64 0, .int .i64 0, .int .i64 0, .int .i64 0, .int .i64 0, .int .i64 0, .int .i64 0] := by kernel_rfl
@[simp] theorem ty_76 : tyK Try.prog 76 = some (.arr 4) := by kernel_rfl
@[simp] theorem arr_76 : arrK Try.prog 76 = some 4 := by kernel_rfl
@[simp] theorem pl_76 : plK Try.prog 76 = some none := by kernel_rfl
@[simp] theorem dk_76 : dK Try.prog 76 = some .other := by kernel_rfl
@[simp] theorem zero_76 : zeroK Try.prog 76 = some [.int .i64 0, .int .i64 0, .int .i64 0, .int .i64 0] := by kernel_rfl
@[simp] theorem ty_89 : tyK Try.prog 89 = some (.obj 4) := by kernel_rfl
@[simp] theorem fld_89_0 : fldK Try.prog 89 0 = some 0 := by kernel_rfl
@[simp] theorem fld_89_1 : fldK Try.prog 89 1 = some 1 := by kernel_rfl
@[simp] theorem fld_89_2 : fldK Try.prog 89 2 = some 2 := by kernel_rfl
@[simp] theorem fld_89_3 : fldK Try.prog 89 3 = some 3 := by kernel_rfl
@[simp] theorem eqk_89 : eqKs Try.prog 89 = some [0, 0, 0, 0] := by kernel_rfl
@[simp] theorem pl_89 : plK Try.prog 89 = some (some [(0, 1), (1, 1), (2, 1), (3, 1)]) := by kernel_rfl
@[simp] theorem zero_89 : zeroK Try.prog 89 = some [.int .i64 0, .int .i64 0, .int .i64 0, .int .i64 0] := by kernel_rfl
@[simp] theorem ty_91 : tyK Try.prog 91 = some (.obj 4) := by kernel_rfl
@[simp] theorem fld_91_0 : fldK Try.prog 91 0 = some 0 := by kernel_rfl
@[simp] theorem fld_91_1 : fldK Try.prog 91 1 = some 1 := by kernel_rfl
@[simp] theorem fld_91_2 : fldK Try.prog 91 2 = some 2 := by kernel_rfl
@[simp] theorem fld_91_3 : fldK Try.prog 91 3 = some 3 := by kernel_rfl
@[simp] theorem eqk_91 : eqKs Try.prog 91 = some [0, 0, 0, 0] := by kernel_rfl
@[simp] theorem pl_91 : plK Try.prog 91 = some (some [(0, 1), (1, 1), (2, 1), (3, 1)]) := by kernel_rfl
@[simp] theorem zero_91 : zeroK Try.prog 91 = some [.int .i64 0, .int .i64 0, .int .i64 0, .int .i64 0] := by kernel_rfl
@[simp] theorem ty_93 : tyK Try.prog 93 = some (.obj 9) := by kernel_rfl
@[simp] theorem fld_93_0 : fldK Try.prog 93 0 = some 0 := by kernel_rfl
@[simp] theorem fld_93_1 : fldK Try.prog 93 1 = some 1 := by kernel_rfl
@[simp] theorem fld_93_2 : fldK Try.prog 93 2 = some 2 := by kernel_rfl
@[simp] theorem fld_93_3 : fldK Try.prog 93 3 = some 3 := by kernel_rfl
@[simp] theorem fld_93_4 : fldK Try.prog 93 4 = some 4 := by kernel_rfl
@[simp] theorem fld_93_5 : fldK Try.prog 93 5 = some 5 := by kernel_rfl
@[simp] theorem fld_93_6 : fldK Try.prog 93 6 = some 6 := by kernel_rfl
@[simp] theorem fld_93_7 : fldK Try.prog 93 7 = some 7 := by kernel_rfl
@[simp] theorem fld_93_8 : fldK Try.prog 93 8 = some 8 := by kernel_rfl
@[simp] theorem eqk_93 : eqKs Try.prog 93 = some [0, 0, 0, 0, 0, 0, 0, 0, 0] := by kernel_rfl
@[simp] theorem pl_93 : plK Try.prog 93 = some (some [(0, 1), (1, 1), (2, 1), (3, 1), (4, 1), (5, 1), (6, 1), (7, 1), (8, 1)]) := by kernel_rfl
@[simp] theorem zero_93 : zeroK Try.prog 93 = some [.int .i64 0, .int .i64 0, .int .i64 0, .int .i64 0, .int .i64 0, .int .i64 0, .int .i64 0, .int .i64 0, .int .i64 0] := by kernel_rfl
@[simp] theorem ty_100 : tyK Try.prog 100 = some (.obj 5) := by kernel_rfl
@[simp] theorem fld_100_0 : fldK Try.prog 100 0 = some 0 := by kernel_rfl
@[simp] theorem fld_100_1 : fldK Try.prog 100 1 = some 1 := by kernel_rfl
@[simp] theorem fld_100_2 : fldK Try.prog 100 2 = some 2 := by kernel_rfl
@[simp] theorem fld_100_3 : fldK Try.prog 100 3 = some 3 := by kernel_rfl
@[simp] theorem fld_100_4 : fldK Try.prog 100 4 = some 4 := by kernel_rfl
@[simp] theorem eqk_100 : eqKs Try.prog 100 = some [0, 0, 0, 0, 0] := by kernel_rfl
@[simp] theorem pl_100 : plK Try.prog 100 = some (some [(0, 1), (1, 1), (2, 1), (3, 1), (4, 1)]) := by kernel_rfl
@[simp] theorem zero_100 : zeroK Try.prog 100 = some [.int .i64 0, .int .i64 0, .int .i64 0, .int .i64 0, .int .i64 0] := by kernel_rfl
@[simp] theorem ty_102 : tyK Try.prog 102 = some (.obj 5) := by kernel_rfl
@[simp] theorem fld_102_0 : fldK Try.prog 102 0 = some 0 := by kernel_rfl
@[simp] theorem fld_102_1 : fldK Try.prog 102 1 = some 1 := by kernel_rfl
@[simp] theorem fld_102_2 : fldK Try.prog 102 2 = some 2 := by kernel_rfl
@[simp] theorem fld_102_3 : fldK Try.prog 102 3 = some 3 := by kernel_rfl
@[simp] theorem fld_102_4 : fldK Try.prog 102 4 = some 4 := by kernel_rfl
@[simp] theorem eqk_102 : eqKs Try.prog 102 = some [0, 0, 0, 0, 0] := by kernel_rfl
@[simp] theorem pl_102 : plK Try.prog 102 = some (some [(0, 1), (1, 1), (2, 1), (3, 1), (4, 1)]) := by kernel_rfl
@[simp] theorem zero_102 : zeroK Try.prog 102 = some [.int .i64 0, .int .i64 0, .int .i64 0, .int .i64 0, .int .i64 0] := by kernel_rfl
@[simp] theorem dk_105 : dK Try.prog 105 = some (.int .u64) := by kernel_rfl
@[simp] theorem ty_105 : tyK Try.prog 105 = some .cell := by kernel_rfl
@[simp] theorem zero_105 : zeroK Try.prog 105 = some [.int .u64 0] := by kernel_rfl
@[simp] theorem ty_118 : tyK Try.prog 118 = some (.arr 6) := by kernel_rfl
@[simp] theorem arr_118 : arrK Try.prog 118 = some 6 := by kernel_rfl
@[simp] theorem pl_118 : plK Try.prog 118 = some none := by kernel_rfl
@[simp] theorem dk_118 : dK Try.prog 118 = some .other := by kernel_rfl
@[simp] theorem zero_118 : zeroK Try.prog 118 = some [.str [], .str [], .str [], .str [], .str [], .str []] := by kernel_rfl
@[simp] theorem sl_119 : slK Try.prog 119 = some (9, 1, 16) := by kernel_rfl
@[simp] theorem dk_119 : dK Try.prog 119 = some .slc := by kernel_rfl
@[simp] theorem ty_119 : tyK Try.prog 119 = some .cell := by kernel_rfl
@[simp] theorem zero_119 : zeroK Try.prog 119 = some [.nils] := by kernel_rfl
@[simp] theorem sl_127 : slK Try.prog 127 = some (4, 1, 1) := by kernel_rfl
@[simp] theorem dk_127 : dK Try.prog 127 = some .slc := by kernel_rfl
@[simp] theorem ty_127 : tyK Try.prog 127 = some .cell := by kernel_rfl
@[simp] theorem zero_127 : zeroK Try.prog 127 = some [.nils] := by kernel_rfl
@[simp] theorem dk_142 : dK Try.prog 142 = some (.int .u64) := by kernel_rfl
@[simp] theorem ty_142 : tyK Try.prog 142 = some .cell := by kernel_rfl
@[simp] theorem zero_142 : zeroK Try.prog 142 = some [.int .u64 0] := by kernel_rfl
@[simp] theorem dk_157 : dK Try.prog 157 = some (.int .u32) := by kernel_rfl
@[simp] theorem ty_157 : tyK Try.prog 157 = some .cell := by kernel_rfl
@[simp] theorem zero_157 : zeroK Try.prog 157 = some [.int .u32 0] := by kernel_rfl
/-- loop.example/g01062/laws.szCoverS: number 9, params [0, 1] -/
def laws_szCoverS_c : ACode := (.seq (.reg [⟨(some 4), .assign (.const (.int .i64 0)), none⟩] [0, 1])
  (.seq (.reg [⟨(some 5), .move (.tmp 1), none⟩,
    ⟨(some 6), .move (.tmp 0), none⟩,
    ⟨(some 7), .call ⟨.builtin .len, #[(.tmp 6)], #[23]⟩, none⟩,
    ⟨(some 8), .binOp .sub 3 (.tmp 5) (.tmp 7) 3, none⟩,
    ⟨(some 1), .assign (.tmp 8), none⟩] [1])
  (.seq (.seq (.reg [⟨(some 9), .move (.tmp 1), none⟩,
    ⟨(some 10), .binOp .lss 3 (.tmp 9) (.const (.int .i64 0)) 3, none⟩] [1, 10])
  (.cond (.tmp 10) (.seq (.reg [⟨(some 4), .assign (.const (.int .i64 (-1))), none⟩] [4])
  .ret)
  .skip))
  (.seq (.reg [⟨(some 11), .move (.tmp 1), none⟩,
    ⟨(some 4), .assign (.tmp 11), none⟩] [4])
  .ret))))
theorem laws_szCoverS_k : fnOk Try.prog (fun _ => false) 9 = some (laws_szCoverS_c.strip, 12, [.tmp 4]) := by kernel_rfl
/-- head: [0, 3, 4] -/
def laws_toCoverS_l0 : ACode := (.seq (.seq (.reg [⟨(some 8), .move (.tmp 4), none⟩,
    ⟨(some 9), .move (.tmp 0), none⟩,
    ⟨(some 10), .call ⟨.builtin .len, #[(.tmp 9)], #[23]⟩, none⟩,
    ⟨(some 11), .binOp .lss 3 (.tmp 8) (.tmp 10) 3, none⟩] [0, 3, 4, 11])
  (.cond (.tmp 11) .skip
  (.exit 0)))
  (.seq (.block 1 (.reg [⟨(some 14), .move (.tmp 3), none⟩,
    ⟨(some 15), .move (.tmp 4), none⟩,
    ⟨(some 16), .move (.tmp 0), none⟩,
    ⟨(some 17), .move (.tmp 4), none⟩,
    ⟨(some 18), .indexAddr 23 (.tmp 16) (.tmp 17), none⟩,
    ⟨(some 19), .load 93 (.tmp 18), none⟩,
    ⟨(some 20), .call ⟨.value (.func 72), #[(.tmp 19)], #[93]⟩, none⟩,
    ⟨(some 21), .indexAddr 31 (.tmp 14) (.tmp 15), none⟩,
    ⟨none, .store 51 (.tmp 21) (.tmp 20), none⟩] [0, 3, 4]))
  (.reg [⟨(some 12), .move (.tmp 4), none⟩,
    ⟨(some 13), .binOp .add 3 (.tmp 12) (.const (.int .i64 1)) 3, none⟩,
    ⟨(some 4), .assign (.tmp 13), none⟩] [0, 3, 4])))
/-- loop.example/g01062/laws.toCoverS: number 12, params [0] -/
def laws_toCoverS_c : ACode := (.seq (.reg [⟨(some 2), .assign (.const (.slice none 0 0)), none⟩] [0])
  (.seq (.reg [⟨(some 5), .move (.tmp 0), none⟩,
    ⟨(some 6), .call ⟨.builtin .len, #[(.tmp 5)], #[23]⟩, none⟩,
    ⟨(some 7), .makeSlice 31 (.tmp 6) (.tmp 6), none⟩,
    ⟨(some 3), .assign (.tmp 7), none⟩] [0, 3])
  (.seq (.seq (.reg [⟨(some 4), .assign (.const (.int .i64 0)), none⟩] [0, 3, 4])
  (.block 0 (.loop laws_toCoverS_l0)))
  (.seq (.reg [⟨(some 22), .move (.tmp 3), none⟩,
    ⟨(some 2), .assign (.tmp 22), none⟩] [2])
  .ret))))
theorem laws_toCoverS_k : fnOk Try.prog (fun _ => false) 12 = some (laws_toCoverS_c.strip, 23, [.tmp 2]) := by kernel_rfl
/-- head: [0, 1, 5] -/
def laws_eqIntS_l0 : ACode := (.seq (.seq (.reg [⟨(some 11), .move (.tmp 5), none⟩,
    ⟨(some 12), .move (.tmp 0), none⟩,
    ⟨(some 13), .call ⟨.builtin .len, #[(.tmp 12)], #[26]⟩, none⟩,
    ⟨(some 14), .binOp .lss 3 (.tmp 11) (.tmp 13) 3, none⟩] [0, 1, 5, 14])
  (.cond (.tmp 14) .skip
  (.exit 0)))
  (.seq (.block 1 (.seq (.regQ [⟨(some 17), .move (.tmp 0), none⟩,
    ⟨(some 18), .move (.tmp 5), none⟩,
    ⟨(some 19), .indexAddr 26 (.tmp 17) (.tmp 18), none⟩,
    ⟨(some 20), .load 3 (.tmp 19), none⟩,
    ⟨(some 21), .move (.tmp 1), none⟩,
    ⟨(some 22), .move (.tmp 5), none⟩,
    ⟨(some 23), .indexAddr 26 (.tmp 21) (.tmp 22), none⟩,
    ⟨(some 24), .load 3 (.tmp 23), none⟩,
    ⟨(some 25), .binOp .neq 3 (.tmp 20) (.tmp 24) 3, none⟩] [0, 1, 5, 25])
  (.cond (.tmp 25) (.seq (.reg [⟨(some 4), .assign (.const (.bool false)), none⟩] [4])
  .ret)
  .skip)))
  (.reg [⟨(some 15), .move (.tmp 5), none⟩,
    ⟨(some 16), .binOp .add 3 (.tmp 15) (.const (.int .i64 1)) 3, none⟩,
    ⟨(some 5), .assign (.tmp 16), none⟩] [0, 1, 5])))
/-- loop.example/g01062/laws.eqIntS: number 14, params [0, 1] -/
def laws_eqIntS_c : ACode := (.seq (.reg [⟨(some 4), .assign (.const (.bool false)), none⟩] [0, 1])
  (.seq (.seq (.reg [⟨(some 6), .move (.tmp 0), none⟩,
    ⟨(some 7), .call ⟨.builtin .len, #[(.tmp 6)], #[26]⟩, none⟩,
    ⟨(some 8), .move (.tmp 1), none⟩,
    ⟨(some 9), .call ⟨.builtin .len, #[(.tmp 8)], #[26]⟩, none⟩,
    ⟨(some 10), .binOp .neq 3 (.tmp 7) (.tmp 9) 3, none⟩] [0, 1, 10])
  (.cond (.tmp 10) (.seq (.reg [⟨(some 4), .assign (.const (.bool false)), none⟩] [4])
  .ret)
  .skip))
  (.seq (.seq (.reg [⟨(some 5), .assign (.const (.int .i64 0)), none⟩] [0, 1, 5])
  (.block 0 (.loop laws_eqIntS_l0)))
  (.seq (.reg [⟨(some 4), .assign (.const (.bool true)), none⟩] [4])
  .ret))))
theorem laws_eqIntS_k : fnOk Try.prog (fun _ => false) 14 = some (laws_eqIntS_c.strip, 26, [.tmp 4]) := by kernel_rfl
/-- head: [0, 1, 5] -/
def laws_eqCoverS_l0 : ACode := (.seq (.seq (.reg [⟨(some 11), .move (.tmp 5), none⟩,
    ⟨(some 12), .move (.tmp 0), none⟩,
    ⟨(some 13), .call ⟨.builtin .len, #[(.tmp 12)], #[31]⟩, none⟩,
    ⟨(some 14), .binOp .lss 3 (.tmp 11) (.tmp 13) 3, none⟩] [0, 1, 5, 14])
  (.cond (.tmp 14) .skip
  (.exit 0)))
  (.seq (.block 1 (.seq (.regQ [⟨(some 17), .move (.tmp 0), none⟩,
    ⟨(some 18), .move (.tmp 5), none⟩,
    ⟨(some 19), .indexAddr 31 (.tmp 17) (.tmp 18), none⟩,
    ⟨(some 20), .load 51 (.tmp 19), none⟩,
    ⟨(some 21), .move (.tmp 1), none⟩,
    ⟨(some 22), .move (.tmp 5), none⟩,
    ⟨(some 23), .indexAddr 31 (.tmp 21) (.tmp 22), none⟩,
    ⟨(some 24), .load 51 (.tmp 23), none⟩,
    ⟨(some 25), .call ⟨.value (.func 80), #[(.tmp 20), (.tmp 24)], #[51, 51]⟩, none⟩,
    ⟨(some 26), .unOp .not 4 (.tmp 25), none⟩] [0, 1, 5, 26])
  (.cond (.tmp 26) (.seq (.reg [⟨(some 4), .assign (.const (.bool false)), none⟩] [4])
  .ret)
  .skip)))
  (.reg [⟨(some 15), .move (.tmp 5), none⟩,
    ⟨(some 16), .binOp .add 3 (.tmp 15) (.const (.int .i64 1)) 3, none⟩,
    ⟨(some 5), .assign (.tmp 16), none⟩] [0, 1, 5])))
/-- loop.example/g01062/laws.eqCoverS: number 16, params [0, 1] -/
def laws_eqCoverS_c : ACode := (.seq (.reg [⟨(some 4), .assign (.const (.bool false)), none⟩] [0, 1])
  (.seq (.seq (.reg [⟨(some 6), .move (.tmp 0), none⟩,
    ⟨(some 7), .call ⟨.builtin .len, #[(.tmp 6)], #[31]⟩, none⟩,
    ⟨(some 8), .move (.tmp 1), none⟩,
    ⟨(some 9), .call ⟨.builtin .len, #[(.tmp 8)], #[31]⟩, none⟩,
    ⟨(some 10), .binOp .neq 3 (.tmp 7) (.tmp 9) 3, none⟩] [0, 1, 10])
  (.cond (.tmp 10) (.seq (.reg [⟨(some 4), .assign (.const (.bool false)), none⟩] [4])
  .ret)
  .skip))
  (.seq (.seq (.reg [⟨(some 5), .assign (.const (.int .i64 0)), none⟩] [0, 1, 5])
  (.block 0 (.loop laws_eqCoverS_l0)))
  (.seq (.reg [⟨(some 4), .assign (.const (.bool true)), none⟩] [4])
  .ret))))
theorem laws_eqCoverS_k : fnOk Try.prog (fun _ => false) 16 = some (laws_eqCoverS_c.strip, 27, [.tmp 4]) := by kernel_rfl
/-- head: [0, 1, 5] -/
def laws_markCoverS_l0 : ACode := (.seq (.seq (.reg [⟨(some 6), .move (.tmp 5), none⟩,
    ⟨(some 7), .move (.tmp 0), none⟩,
    ⟨(some 8), .call ⟨.builtin .len, #[(.tmp 7)], #[31]⟩, none⟩,
    ⟨(some 9), .binOp .lss 3 (.tmp 6) (.tmp 8) 3, none⟩] [0, 1, 5, 9])
  (.cond (.tmp 9) .skip
  (.exit 0)))
  (.seq (.block 1 (.seq (.reg [⟨(some 12), .move (.tmp 0), none⟩,
    ⟨(some 13), .move (.tmp 5), none⟩,
    ⟨(some 14), .move (.tmp 1), none⟩,
    ⟨(some 15), .indexAddr 31 (.tmp 12) (.tmp 13), none⟩,
    ⟨(some 16), .fieldAddr 51 (.tmp 15) 0, none⟩,
    ⟨none, .store 3 (.tmp 16) (.tmp 14), none⟩] [0, 1, 5])
  (.seq (.reg [⟨(some 17), .move (.tmp 1), none⟩,
    ⟨(some 18), .binOp .add 3 (.tmp 17) (.const (.int .i64 1)) 3, none⟩,
    ⟨(some 1), .assign (.tmp 18), none⟩] [0, 1, 5])
  (.seq (.reg [⟨(some 19), .move (.tmp 0), none⟩,
    ⟨(some 20), .move (.tmp 5), none⟩,
    ⟨(some 21), .move (.tmp 1), none⟩,
    ⟨(some 22), .indexAddr 31 (.tmp 19) (.tmp 20), none⟩,
    ⟨(some 23), .fieldAddr 51 (.tmp 22) 1, none⟩,
    ⟨none, .store 3 (.tmp 23) (.tmp 21), none⟩] [0, 1, 5])
  (.seq (.reg [⟨(some 24), .move (.tmp 1), none⟩,
    ⟨(some 25), .binOp .add 3 (.tmp 24) (.const (.int .i64 1)) 3, none⟩,
    ⟨(some 1), .assign (.tmp 25), none⟩] [0, 1, 5])
  (.seq (.reg [⟨(some 26), .move (.tmp 0), none⟩,
    ⟨(some 27), .move (.tmp 5), none⟩,
    ⟨(some 28), .move (.tmp 1), none⟩,
    ⟨(some 29), .indexAddr 31 (.tmp 26) (.tmp 27), none⟩,
    ⟨(some 30), .fieldAddr 51 (.tmp 29) 2, none⟩,
    ⟨none, .store 3 (.tmp 30) (.tmp 28), none⟩] [0, 1, 5])
  (.seq (.reg [⟨(some 31), .move (.tmp 1), none⟩,
    ⟨(some 32), .binOp .add 3 (.tmp 31) (.const (.int .i64 1)) 3, none⟩,
    ⟨(some 1), .assign (.tmp 32), none⟩] [0, 1, 5])
  (.seq (.reg [⟨(some 33), .move (.tmp 0), none⟩,
    ⟨(some 34), .move (.tmp 5), none⟩,
    ⟨(some 35), .move (.tmp 1), none⟩,
    ⟨(some 36), .indexAddr 31 (.tmp 33) (.tmp 34), none⟩,
    ⟨(some 37), .fieldAddr 51 (.tmp 36) 3, none⟩,
    ⟨none, .store 3 (.tmp 37) (.tmp 35), none⟩] [0, 1, 5])
  (.seq (.reg [⟨(some 38), .move (.tmp 1), none⟩,
    ⟨(some 39), .binOp .add 3 (.tmp 38) (.const (.int .i64 1)) 3, none⟩,
    ⟨(some 1), .assign (.tmp 39), none⟩] [0, 1, 5])
  (.seq (.reg [⟨(some 40), .move (.tmp 0), none⟩,
    ⟨(some 41), .move (.tmp 5), none⟩,
    ⟨(some 42), .move (.tmp 1), none⟩,
    ⟨(some 43), .indexAddr 31 (.tmp 40) (.tmp 41), none⟩,
    ⟨(some 44), .fieldAddr 51 (.tmp 43) 4, none⟩,
    ⟨none, .store 3 (.tmp 44) (.tmp 42), none⟩] [0, 1, 5])
  (.seq (.reg [⟨(some 45), .move (.tmp 1), none⟩,
    ⟨(some 46), .binOp .add 3 (.tmp 45) (.const (.int .i64 1)) 3, none⟩,
    ⟨(some 1), .assign (.tmp 46), none⟩] [0, 1, 5])
  (.seq (.reg [⟨(some 47), .move (.tmp 0), none⟩,
    ⟨(some 48), .move (.tmp 5), none⟩,
    ⟨(some 49), .move (.tmp 1), none⟩,
    ⟨(some 50), .indexAddr 31 (.tmp 47) (.tmp 48), none⟩,
    ⟨(some 51), .fieldAddr 51 (.tmp 50) 5, none⟩,
    ⟨none, .store 3 (.tmp 51) (.tmp 49), none⟩] [0, 1, 5])
  (.seq (.reg [⟨(some 52), .move (.tmp 1), none⟩,
    ⟨(some 53), .binOp .add 3 (.tmp 52) (.const (.int .i64 1)) 3, none⟩,
    ⟨(some 1), .assign (.tmp 53), none⟩] [0, 1, 5])
  (.seq (.reg [⟨(some 54), .move (.tmp 0), none⟩,
    ⟨(some 55), .move (.tmp 5), none⟩,
    ⟨(some 56), .move (.tmp 1), none⟩,
    ⟨(some 57), .indexAddr 31 (.tmp 54) (.tmp 55), none⟩,
    ⟨(some 58), .fieldAddr 51 (.tmp 57) 6, none⟩,
    ⟨none, .store 3 (.tmp 58) (.tmp 56), none⟩] [0, 1, 5])
  (.seq (.reg [⟨(some 59), .move (.tmp 1), none⟩,
    ⟨(some 60), .binOp .add 3 (.tmp 59) (.const (.int .i64 1)) 3, none⟩,
    ⟨(some 1), .assign (.tmp 60), none⟩] [0, 1, 5])
  (.seq (.reg [⟨(some 61), .move (.tmp 0), none⟩,
    ⟨(some 62), .move (.tmp 5), none⟩,
    ⟨(some 63), .move (.tmp 1), none⟩,
    ⟨(some 64), .indexAddr 31 (.tmp 61) (.tmp 62), none⟩,
    ⟨(some 65), .fieldAddr 51 (.tmp 64) 7, none⟩,
    ⟨none, .store 3 (.tmp 65) (.tmp 63), none⟩] [0, 1, 5])
  (.seq (.reg [⟨(some 66), .move (.tmp 1), none⟩,
    ⟨(some 67), .binOp .add 3 (.tmp 66) (.const (.int .i64 1)) 3, none⟩,
    ⟨(some 1), .assign (.tmp 67), none⟩] [0, 1, 5])
  (.seq (.reg [⟨(some 68), .move (.tmp 0), none⟩,
    ⟨(some 69), .move (.tmp 5), none⟩,
    ⟨(some 70), .move (.tmp 1), none⟩,
    ⟨(some 71), .indexAddr 31 (.tmp 68) (.tmp 69), none⟩,
    ⟨(some 72), .fieldAddr 51 (.tmp 71) 8, none⟩,
    ⟨none, .store 3 (.tmp 72) (.tmp 70), none⟩] [0, 1, 5])
  (.reg [⟨(some 73), .move (.tmp 1), none⟩,
    ⟨(some 74), .binOp .add 3 (.tmp 73) (.const (.int .i64 1)) 3, none⟩,
    ⟨(some 1), .assign (.tmp 74), none⟩] [0, 1, 5])))))))))))))))))))
  (.reg [⟨(some 10), .move (.tmp 5), none⟩,
    ⟨(some 11), .binOp .add 3 (.tmp 10) (.const (.int .i64 1)) 3, none⟩,
    ⟨(some 5), .assign (.tmp 11), none⟩] [0, 1, 5])))
/-- loop.example/g01062/laws.markCoverS: number 18, params [0, 1] -/
def laws_markCoverS_c : ACode := (.seq (.reg [⟨(some 4), .assign (.const (.int .i64 0)), none⟩] [0, 1])
  (.seq (.seq (.reg [⟨(some 5), .assign (.const (.int .i64 0)), none⟩] [0, 1, 5])
  (.block 0 (.loop laws_markCoverS_l0)))
  (.seq (.reg [⟨(some 75), .move (.tmp 1), none⟩,
    ⟨(some 4), .assign (.tmp 75), none⟩] [4])
  .ret)))
theorem laws_markCoverS_k : fnOk Try.prog (fun _ => false) 18 = some (laws_markCoverS_c.strip, 76, [.tmp 4]) := by kernel_rfl
/-- head: [0, 1, 5] -/
def laws_markIntS_l0 : ACode := (.seq (.seq (.reg [⟨(some 6), .move (.tmp 5), none⟩,
    ⟨(some 7), .move (.tmp 0), none⟩,
    ⟨(some 8), .call ⟨.builtin .len, #[(.tmp 7)], #[26]⟩, none⟩,
    ⟨(some 9), .binOp .lss 3 (.tmp 6) (.tmp 8) 3, none⟩] [0, 1, 5, 9])
  (.cond (.tmp 9) .skip
  (.exit 0)))
  (.seq (.block 1 (.seq (.reg [⟨(some 12), .move (.tmp 0), none⟩,
    ⟨(some 13), .move (.tmp 5), none⟩,
    ⟨(some 14), .move (.tmp 1), none⟩,
    ⟨(some 15), .indexAddr 26 (.tmp 12) (.tmp 13), none⟩,
    ⟨none, .store 3 (.tmp 15) (.tmp 14), none⟩] [0, 1, 5])
  (.reg [⟨(some 16), .move (.tmp 1), none⟩,
    ⟨(some 17), .binOp .add 3 (.tmp 16) (.const (.int .i64 1)) 3, none⟩,
    ⟨(some 1), .assign (.tmp 17), none⟩] [0, 1, 5])))
  (.reg [⟨(some 10), .move (.tmp 5), none⟩,
    ⟨(some 11), .binOp .add 3 (.tmp 10) (.const (.int .i64 1)) 3, none⟩,
    ⟨(some 5), .assign (.tmp 11), none⟩] [0, 1, 5])))
/-- loop.example/g01062/laws.markIntS: number 19, params [0, 1] -/
def laws_markIntS_c : ACode := (.seq (.reg [⟨(some 4), .assign (.const (.int .i64 0)), none⟩] [0, 1])
  (.seq (.seq (.reg [⟨(some 5), .assign (.const (.int .i64 0)), none⟩] [0, 1, 5])
  (.block 0 (.loop laws_markIntS_l0)))
  (.seq (.reg [⟨(some 18), .move (.tmp 1), none⟩,
    ⟨(some 4), .assign (.tmp 18), none⟩] [4])
  .ret)))
theorem laws_markIntS_k : fnOk Try.prog (fun _ => false) 19 = some (laws_markIntS_c.strip, 19, [.tmp 4]) := by kernel_rfl
/-- head: [0, 1, 5] -/
def laws_heldIntS_l0 : ACode := (.seq (.seq (.reg [⟨(some 6), .move (.tmp 5), none⟩,
    ⟨(some 7), .move (.tmp 0), none⟩,
    ⟨(some 8), .call ⟨.builtin .len, #[(.tmp 7)], #[26]⟩, none⟩,
    ⟨(some 9), .binOp .lss 3 (.tmp 6) (.tmp 8) 3, none⟩] [0, 1, 5, 9])
  (.cond (.tmp 9) .skip
  (.exit 0)))
  (.seq (.block 1 (.seq (.seq (.reg [⟨(some 12), .move (.tmp 0), none⟩,
    ⟨(some 13), .move (.tmp 5), none⟩,
    ⟨(some 14), .indexAddr 26 (.tmp 12) (.tmp 13), none⟩,
    ⟨(some 15), .load 3 (.tmp 14), none⟩,
    ⟨(some 16), .move (.tmp 1), none⟩,
    ⟨(some 17), .binOp .neq 3 (.tmp 15) (.tmp 16) 3, none⟩] [0, 1, 5, 17])
  (.cond (.tmp 17) (.seq (.reg [⟨(some 4), .assign (.const (.int .i64 (-1))), none⟩] [4])
  .ret)
  .skip))
  (.reg [⟨(some 18), .move (.tmp 1), none⟩,
    ⟨(some 19), .binOp .add 3 (.tmp 18) (.const (.int .i64 1)) 3, none⟩,
    ⟨(some 1), .assign (.tmp 19), none⟩] [0, 1, 5])))
  (.reg [⟨(some 10), .move (.tmp 5), none⟩,
    ⟨(some 11), .binOp .add 3 (.tmp 10) (.const (.int .i64 1)) 3, none⟩,
    ⟨(some 5), .assign (.tmp 11), none⟩] [0, 1, 5])))
/-- loop.example/g01062/laws.heldIntS: number 20, params [0, 1] -/
def laws_heldIntS_c : ACode := (.seq (.reg [⟨(some 4), .assign (.const (.int .i64 0)), none⟩] [0, 1])
  (.seq (.seq (.reg [⟨(some 5), .assign (.const (.int .i64 0)), none⟩] [0, 1, 5])
  (.block 0 (.loop laws_heldIntS_l0)))
  (.seq (.reg [⟨(some 20), .move (.tmp 1), none⟩,
    ⟨(some 4), .assign (.tmp 20), none⟩] [4])
  .ret)))
theorem laws_heldIntS_k : fnOk Try.prog (fun _ => false) 20 = some (laws_heldIntS_c.strip, 21, [.tmp 4]) := by kernel_rfl
/-- loop.example/g01062/laws.szRateS: number 21, params [0, 1] -/
def laws_szRateS_c : ACode := (.seq (.reg [⟨(some 4), .assign (.const (.int .i64 0)), none⟩] [0, 1])
  (.seq (.reg [⟨(some 5), .move (.tmp 1), none⟩,
    ⟨(some 6), .move (.tmp 0), none⟩,
    ⟨(some 7), .call ⟨.builtin .len, #[(.tmp 6)], #[40]⟩, none⟩,
    ⟨(some 8), .binOp .sub 3 (.tmp 5) (.tmp 7) 3, none⟩,
    ⟨(some 1), .assign (.tmp 8), none⟩] [1])
  (.seq (.seq (.reg [⟨(some 9), .move (.tmp 1), none⟩,
    ⟨(some 10), .binOp .lss 3 (.tmp 9) (.const (.int .i64 0)) 3, none⟩] [1, 10])
  (.cond (.tmp 10) (.seq (.reg [⟨(some 4), .assign (.const (.int .i64 (-1))), none⟩] [4])
  .ret)
  .skip))
  (.seq (.reg [⟨(some 11), .move (.tmp 1), none⟩,
    ⟨(some 4), .assign (.tmp 11), none⟩] [4])
  .ret))))
theorem laws_szRateS_k : fnOk Try.prog (fun _ => false) 21 = some (laws_szRateS_c.strip, 12, [.tmp 4]) := by kernel_rfl
/-- head: [0, 3, 4] -/
def laws_toRateS_l0 : ACode := (.seq (.seq (.reg [⟨(some 8), .move (.tmp 4), none⟩,
    ⟨(some 9), .move (.tmp 0), none⟩,
    ⟨(some 10), .call ⟨.builtin .len, #[(.tmp 9)], #[40]⟩, none⟩,
    ⟨(some 11), .binOp .lss 3 (.tmp 8) (.tmp 10) 3, none⟩] [0, 3, 4, 11])
  (.cond (.tmp 11) .skip
  (.exit 0)))
  (.seq (.block 1 (.reg [⟨(some 14), .move (.tmp 3), none⟩,
    ⟨(some 15), .move (.tmp 4), none⟩,
    ⟨(some 16), .move (.tmp 0), none⟩,
    ⟨(some 17), .move (.tmp 4), none⟩,
    ⟨(some 18), .indexAddr 40 (.tmp 16) (.tmp 17), none⟩,
    ⟨(some 19), .load 102 (.tmp 18), none⟩,
    ⟨(some 20), .call ⟨.value (.func 83), #[(.tmp 19)], #[102]⟩, none⟩,
    ⟨(some 21), .indexAddr 43 (.tmp 14) (.tmp 15), none⟩,
    ⟨none, .store 100 (.tmp 21) (.tmp 20), none⟩] [0, 3, 4]))
  (.reg [⟨(some 12), .move (.tmp 4), none⟩,
    ⟨(some 13), .binOp .add 3 (.tmp 12) (.const (.int .i64 1)) 3, none⟩,
    ⟨(some 4), .assign (.tmp 13), none⟩] [0, 3, 4])))
/-- loop.example/g01062/laws.toRateS: number 23, params [0] -/
def laws_toRateS_c : ACode := (.seq (.reg [⟨(some 2), .assign (.const (.slice none 0 0)), none⟩] [0])
  (.seq (.reg [⟨(some 5), .move (.tmp 0), none⟩,
    ⟨(some 6), .call ⟨.builtin .len, #[(.tmp 5)], #[40]⟩, none⟩,
    ⟨(some 7), .makeSlice 43 (.tmp 6) (.tmp 6), none⟩,
    ⟨(some 3), .assign (.tmp 7), none⟩] [0, 3])
  (.seq (.seq (.reg [⟨(some 4), .assign (.const (.int .i64 0)), none⟩] [0, 3, 4])
  (.block 0 (.loop laws_toRateS_l0)))
  (.seq (.reg [⟨(some 22), .move (.tmp 3), none⟩,
    ⟨(some 2), .assign (.tmp 22), none⟩] [2])
  .ret))))
theorem laws_toRateS_k : fnOk Try.prog (fun _ => false) 23 = some (laws_toRateS_c.strip, 23, [.tmp 2]) := by kernel_rfl
/-- head: [0, 1, 5] -/
def laws_eqRateS_l0 : ACode := (.seq (.seq (.reg [⟨(some 11), .move (.tmp 5), none⟩,
    ⟨(some 12), .move (.tmp 0), none⟩,
    ⟨(some 13), .call ⟨.builtin .len, #[(.tmp 12)], #[43]⟩, none⟩,
    ⟨(some 14), .binOp .lss 3 (.tmp 11) (.tmp 13) 3, none⟩] [0, 1, 5, 14])
  (.cond (.tmp 14) .skip
  (.exit 0)))
  (.seq (.block 1 (.seq (.regQ [⟨(some 17), .move (.tmp 0), none⟩,
    ⟨(some 18), .move (.tmp 5), none⟩,
    ⟨(some 19), .indexAddr 43 (.tmp 17) (.tmp 18), none⟩,
    ⟨(some 20), .load 100 (.tmp 19), none⟩,
    ⟨(some 21), .move (.tmp 1), none⟩,
    ⟨(some 22), .move (.tmp 5), none⟩,
    ⟨(some 23), .indexAddr 43 (.tmp 21) (.tmp 22), none⟩,
    ⟨(some 24), .load 100 (.tmp 23), none⟩,
    ⟨(some 25), .call ⟨.value (.func 86), #[(.tmp 20), (.tmp 24)], #[100, 100]⟩, none⟩,
    ⟨(some 26), .unOp .not 4 (.tmp 25), none⟩] [0, 1, 5, 26])
  (.cond (.tmp 26) (.seq (.reg [⟨(some 4), .assign (.const (.bool false)), none⟩] [4])
  .ret)
  .skip)))
  (.reg [⟨(some 15), .move (.tmp 5), none⟩,
    ⟨(some 16), .binOp .add 3 (.tmp 15) (.const (.int .i64 1)) 3, none⟩,
    ⟨(some 5), .assign (.tmp 16), none⟩] [0, 1, 5])))
/-- loop.example/g01062/laws.eqRateS: number 25, params [0, 1] -/
def laws_eqRateS_c : ACode := (.seq (.reg [⟨(some 4), .assign (.const (.bool false)), none⟩] [0, 1])
  (.seq (.seq (.reg [⟨(some 6), .move (.tmp 0), none⟩,
    ⟨(some 7), .call ⟨.builtin .len, #[(.tmp 6)], #[43]⟩, none⟩,
    ⟨(some 8), .move (.tmp 1), none⟩,
    ⟨(some 9), .call ⟨.builtin .len, #[(.tmp 8)], #[43]⟩, none⟩,
    ⟨(some 10), .binOp .neq 3 (.tmp 7) (.tmp 9) 3, none⟩] [0, 1, 10])
  (.cond (.tmp 10) (.seq (.reg [⟨(some 4), .assign (.const (.bool false)), none⟩] [4])
  .ret)
  .skip))
  (.seq (.seq (.reg [⟨(some 5), .assign (.const (.int .i64 0)), none⟩] [0, 1, 5])
  (.block 0 (.loop laws_eqRateS_l0)))
  (.seq (.reg [⟨(some 4), .assign (.const (.bool true)), none⟩] [4])
  .ret))))
theorem laws_eqRateS_k : fnOk Try.prog (fun _ => false) 25 = some (laws_eqRateS_c.strip, 27, [.tmp 4]) := by kernel_rfl
/-- head: [0, 1, 5] -/
def laws_markRateS_l0 : ACode := (.seq (.seq (.reg [⟨(some 6), .move (.tmp 5), none⟩,
    ⟨(some 7), .move (.tmp 0), none⟩,
    ⟨(some 8), .call ⟨.builtin .len, #[(.tmp 7)], #[43]⟩, none⟩,
    ⟨(some 9), .binOp .lss 3 (.tmp 6) (.tmp 8) 3, none⟩] [0, 1, 5, 9])
  (.cond (.tmp 9) .skip
  (.exit 0)))
  (.seq (.block 1 (.seq (.reg [⟨(some 12), .move (.tmp 0), none⟩,
    ⟨(some 13), .move (.tmp 5), none⟩,
    ⟨(some 14), .move (.tmp 1), none⟩,
    ⟨(some 15), .indexAddr 43 (.tmp 12) (.tmp 13), none⟩,
    ⟨(some 16), .fieldAddr 100 (.tmp 15) 0, none⟩,
    ⟨none, .store 3 (.tmp 16) (.tmp 14), none⟩] [0, 1, 5])
  (.seq (.reg [⟨(some 17), .move (.tmp 1), none⟩,
    ⟨(some 18), .binOp .add 3 (.tmp 17) (.const (.int .i64 1)) 3, none⟩,
    ⟨(some 1), .assign (.tmp 18), none⟩] [0, 1, 5])
  (.seq (.reg [⟨(some 19), .move (.tmp 0), none⟩,
    ⟨(some 20), .move (.tmp 5), none⟩,
    ⟨(some 21), .move (.tmp 1), none⟩,
    ⟨(some 22), .indexAddr 43 (.tmp 19) (.tmp 20), none⟩,
    ⟨(some 23), .fieldAddr 100 (.tmp 22) 1, none⟩,
    ⟨none, .store 3 (.tmp 23) (.tmp 21), none⟩] [0, 1, 5])
  (.seq (.reg [⟨(some 24), .move (.tmp 1), none⟩,
    ⟨(some 25), .binOp .add 3 (.tmp 24) (.const (.int .i64 1)) 3, none⟩,
    ⟨(some 1), .assign (.tmp 25), none⟩] [0, 1, 5])
  (.seq (.reg [⟨(some 26), .move (.tmp 0), none⟩,
    ⟨(some 27), .move (.tmp 5), none⟩,
    ⟨(some 28), .move (.tmp 1), none⟩,
    ⟨(some 29), .indexAddr 43 (.tmp 26) (.tmp 27), none⟩,
    ⟨(some 30), .fieldAddr 100 (.tmp 29) 2, none⟩,
    ⟨none, .store 3 (.tmp 30) (.tmp 28), none⟩] [0, 1, 5])
  (.seq (.reg [⟨(some 31), .move (.tmp 1), none⟩,
    ⟨(some 32), .binOp .add 3 (.tmp 31) (.const (.int .i64 1)) 3, none⟩,
    ⟨(some 1), .assign (.tmp 32), none⟩] [0, 1, 5])
  (.seq (.reg [⟨(some 33), .move (.tmp 0), none⟩,
    ⟨(some 34), .move (.tmp 5), none⟩,
    ⟨(some 35), .move (.tmp 1), none⟩,
    ⟨(some 36), .indexAddr 43 (.tmp 33) (.tmp 34), none⟩,
    ⟨(some 37), .fieldAddr 100 (.tmp 36) 3, none⟩,
    ⟨none, .store 3 (.tmp 37) (.tmp 35), none⟩] [0, 1, 5])
  (.seq (.reg [⟨(some 38), .move (.tmp 1), none⟩,
    ⟨(some 39), .binOp .add 3 (.tmp 38) (.const (.int .i64 1)) 3, none⟩,
    ⟨(some 1), .assign (.tmp 39), none⟩] [0, 1, 5])
  (.seq (.reg [⟨(some 40), .move (.tmp 0), none⟩,
    ⟨(some 41), .move (.tmp 5), none⟩,
    ⟨(some 42), .move (.tmp 1), none⟩,
    ⟨(some 43), .indexAddr 43 (.tmp 40) (.tmp 41), none⟩,
    ⟨(some 44), .fieldAddr 100 (.tmp 43) 4, none⟩,
    ⟨none, .store 3 (.tmp 44) (.tmp 42), none⟩] [0, 1, 5])
  (.reg [⟨(some 45), .move (.tmp 1), none⟩,
    ⟨(some 46), .binOp .add 3 (.tmp 45) (.const (.int .i64 1)) 3, none⟩,
    ⟨(some 1), .assign (.tmp 46), none⟩] [0, 1, 5])))))))))))
  (.reg [⟨(some 10), .move (.tmp 5), none⟩,
    ⟨(some 11), .binOp .add 3 (.tmp 10) (.const (.int .i64 1)) 3, none⟩,
    ⟨(some 5), .assign (.tmp 11), none⟩] [0, 1, 5])))
/-- loop.example/g01062/laws.markRateS: number 26, params [0, 1] -/
def laws_markRateS_c : ACode := (.seq (.reg [⟨(some 4), .assign (.const (.int .i64 0)), none⟩] [0, 1])
  (.seq (.seq (.reg [⟨(some 5), .assign (.const (.int .i64 0)), none⟩] [0, 1, 5])
  (.block 0 (.loop laws_markRateS_l0)))
  (.seq (.reg [⟨(some 47), .move (.tmp 1), none⟩,
    ⟨(some 4), .assign (.tmp 47), none⟩] [4])
  .ret)))
theorem laws_markRateS_k : fnOk Try.prog (fun _ => false) 26 = some (laws_markRateS_c.strip, 48, [.tmp 4]) := by kernel_rfl
/-- loop.example/g01062/laws.vBig: number 27, params [0] -/
def laws_vBig_c : ACode := (.seq (.reg [⟨(some 2), .assign (.const (.bool false)), none⟩] [0])
  (.seq (.reg [⟨(some 3), .move (.tmp 0), none⟩,
    ⟨(some 4), .call ⟨.builtin .len, #[(.tmp 3)], #[48]⟩, none⟩,
    ⟨(some 5), .binOp .gtr 3 (.tmp 4) (.const (.int .i64 65536)) 3, none⟩,
    ⟨(some 2), .assign (.tmp 5), none⟩] [2])
  .ret))
theorem laws_vBig_k : fnOk Try.prog (fun _ => false) 27 = some (laws_vBig_c.strip, 6, [.tmp 2]) := by kernel_rfl
/-- head: [0, 1, 5] -/
def laws_vInts_l0 : ACode := (.seq (.seq (.reg [⟨(some 11), .move (.tmp 5), none⟩,
    ⟨(some 12), .move (.tmp 0), none⟩,
    ⟨(some 13), .call ⟨.builtin .len, #[(.tmp 12)], #[26]⟩, none⟩,
    ⟨(some 14), .binOp .lss 3 (.tmp 11) (.tmp 13) 3, none⟩] [0, 1, 5, 14])
  (.cond (.tmp 14) .skip
  (.exit 0)))
  (.seq (.block 1 (.seq (.regQ [⟨(some 17), .move (.tmp 0), none⟩,
    ⟨(some 18), .move (.tmp 5), none⟩,
    ⟨(some 19), .indexAddr 26 (.tmp 17) (.tmp 18), none⟩,
    ⟨(some 20), .load 3 (.tmp 19), none⟩,
    ⟨(some 21), .move (.tmp 1), none⟩,
    ⟨(some 22), .move (.tmp 5), none⟩,
    ⟨(some 23), .indexAddr 26 (.tmp 21) (.tmp 22), none⟩,
    ⟨(some 24), .load 3 (.tmp 23), none⟩,
    ⟨(some 25), .binOp .neq 3 (.tmp 20) (.tmp 24) 3, none⟩] [0, 1, 5, 25])
  (.cond (.tmp 25) (.seq (.reg [⟨(some 4), .assign (.const (.bool false)), none⟩] [4])
  .ret)
  .skip)))
  (.reg [⟨(some 15), .move (.tmp 5), none⟩,
    ⟨(some 16), .binOp .add 3 (.tmp 15) (.const (.int .i64 1)) 3, none⟩,
    ⟨(some 5), .assign (.tmp 16), none⟩] [0, 1, 5])))
/-- loop.example/g01062/laws.vInts: number 35, params [0, 1] -/
def laws_vInts_c : ACode := (.seq (.reg [⟨(some 4), .assign (.const (.bool false)), none⟩] [0, 1])
  (.seq (.seq (.reg [⟨(some 6), .move (.tmp 0), none⟩,
    ⟨(some 7), .call ⟨.builtin .len, #[(.tmp 6)], #[26]⟩, none⟩,
    ⟨(some 8), .move (.tmp 1), none⟩,
    ⟨(some 9), .call ⟨.builtin .len, #[(.tmp 8)], #[26]⟩, none⟩,
    ⟨(some 10), .binOp .neq 3 (.tmp 7) (.tmp 9) 3, none⟩] [0, 1, 10])
  (.cond (.tmp 10) (.seq (.reg [⟨(some 4), .assign (.const (.bool false)), none⟩] [4])
  .ret)
  .skip))
  (.seq (.seq (.reg [⟨(some 5), .assign (.const (.int .i64 0)), none⟩] [0, 1, 5])
  (.block 0 (.loop laws_vInts_l0)))
  (.seq (.reg [⟨(some 4), .assign (.const (.bool true)), none⟩] [4])
  .ret))))
theorem laws_vInts_k : fnOk Try.prog (fun _ => false) 35 = some (laws_vInts_c.strip, 26, [.tmp 4]) := by kernel_rfl
/-- loop.example/g01062/impl.IsCover: number 40, params [0] -/
def impl_IsCover_c : ACode := (.seq (.reg [⟨(some 1), .box 51 (.tmp 0), none⟩,
    ⟨(some 2), .assign (.const (.bool false)), none⟩] [1])
  (.seq (.reg [⟨(some 3), .load 51 (.tmp 1), none⟩,
    ⟨(some 4), .call ⟨.value (.func 90), #[(.tmp 3)], #[51]⟩, none⟩,
    ⟨(some 2), .assign (.tmp 4), none⟩] [2])
  .ret))
theorem impl_IsCover_k : fnOk Try.prog (fun _ => false) 40 = some (impl_IsCover_c.strip, 5, [.tmp 2]) := by kernel_rfl
/-- loop.example/g01062/spec.IsCover: number 41, params [0] -/
def spec_IsCover_c : ACode := (.seq (.reg [⟨(some 1), .box 51 (.tmp 0), none⟩,
    ⟨(some 2), .assign (.const (.bool false)), none⟩] [1])
  (.seq (.reg [⟨(some 3), .load 51 (.tmp 1), none⟩,
    ⟨(some 4), .call ⟨.value (.func 91), #[(.tmp 3)], #[51]⟩, none⟩,
    ⟨(some 2), .assign (.tmp 4), none⟩] [2])
  .ret))
theorem spec_IsCover_k : fnOk Try.prog (fun _ => false) 41 = some (spec_IsCover_c.strip, 5, [.tmp 2]) := by kernel_rfl
/-- loop.example/g01062/impl.LeastChange: number 46, params [0, 1] -/
def impl_LeastChange_c : ACode := (.seq (.reg [⟨(some 3), .box 51 (.tmp 1), none⟩,
    ⟨(some 4), .assign (.const (.int .i64 0)), none⟩,
    ⟨(some 5), .alloc 51, none⟩,
    ⟨(some 6), .assign (.const (.bool false)), none⟩] [0, 3, 5])
  (.seq (.seq (.reg [⟨(some 11), .move (.tmp 0), none⟩,
    ⟨(some 12), .call ⟨.value (.func 84), #[(.tmp 11)], #[43]⟩, none⟩,
    ⟨(some 13), .unOp .not 4 (.tmp 12), none⟩,
    ⟨(some 14), .move (.tmp 13), none⟩,
    ⟨(some 15), .load 51 (.tmp 3), (some (some 14, false))⟩,
    ⟨(some 16), .call ⟨.value (.func 90), #[(.tmp 15)], #[51]⟩, (some (some 14, false))⟩,
    ⟨(some 17), .unOp .not 4 (.tmp 16), (some (some 14, false))⟩,
    ⟨(some 18), .pick (.tmp 14) (.const (.bool true)) (.tmp 17), none⟩] [0, 3, 5, 18])
  (.cond (.tmp 18) (.seq (.reg [⟨(some 19), .build 51 #[], none⟩,
    ⟨(some 4), .assign (.const (.int .i64 0)), none⟩,
    ⟨none, .store 51 (.tmp 5) (.tmp 19), none⟩,
    ⟨(some 6), .assign (.const (.bool false)), none⟩] [4, 5, 6])
  .ret)
  .skip))
  (.seq (.reg [⟨(some 20), .move (.tmp 0), none⟩,
    ⟨(some 21), .load 51 (.tmp 3), none⟩,
    ⟨(some 22), .call ⟨.value (.func 104), #[(.tmp 20), (.tmp 21)], #[43, 51]⟩, none⟩,
    ⟨(some 7), .assign (.tmp 22), none⟩] [0, 3, 5, 7])
  (.seq (.seq (.reg [⟨(some 23), .move (.tmp 7), none⟩,
    ⟨(some 24), .call ⟨.builtin .len, #[(.tmp 23)], #[26]⟩, none⟩,
    ⟨(some 25), .binOp .eql 3 (.tmp 24) (.const (.int .i64 0)) 3, none⟩] [0, 3, 5, 7, 25])
  (.cond (.tmp 25) (.seq (.reg [⟨(some 26), .build 51 #[], none⟩,
    ⟨(some 4), .assign (.const (.int .i64 0)), none⟩,
    ⟨none, .store 51 (.tmp 5) (.tmp 26), none⟩,
    ⟨(some 6), .assign (.const (.bool false)), none⟩] [4, 5, 6])
  .ret)
  .skip))
  (.seq (.reg [⟨(some 27), .move (.tmp 7), none⟩,
    ⟨(some 28), .call ⟨.value (.func 105), #[(.tmp 27), (.func 106)], #[26, 113]⟩, none⟩,
    ⟨(some 8), .assign (.tmp 28), none⟩] [0, 3, 5, 8])
  (.seq (.reg [⟨(some 30), .move (.tmp 0), none⟩,
    ⟨(some 31), .load 51 (.tmp 3), none⟩,
    ⟨(some 32), .move (.tmp 8), none⟩,
    ⟨(some 33), .call ⟨.value (.func 107), #[(.tmp 30), (.tmp 31), (.tmp 32)], #[43, 51, 3]⟩, none⟩,
    ⟨(some 29), .move (.tmp 33), none⟩,
    ⟨(some 34), .extract (.tmp 29) 0, none⟩,
    ⟨(some 35), .extract (.tmp 29) 1, none⟩,
    ⟨(some 9), .alloc 51, none⟩,
    ⟨none, .store 51 (.tmp 9) (.tmp 34), none⟩,
    ⟨(some 10), .assign (.tmp 35), none⟩] [5, 8, 9])
  (.seq (.regT [⟨(some 36), .move (.tmp 8), none⟩,
    ⟨(some 37), .load 51 (.tmp 9), none⟩,
    ⟨(some 4), .assign (.tmp 36), none⟩]
    [⟨none, .store 51 (.tmp 5) (.tmp 37), none⟩,
    ⟨(some 6), .assign (.const (.bool true)), none⟩] [4, 5, 6])
  .ret)))))))
theorem impl_LeastChange_k : fnOk Try.prog (fun _ => false) 46 = some (impl_LeastChange_c.strip, 38, [.tmp 4, .cell 5 51, .tmp 6]) := by kernel_rfl
/-- loop.example/g01062/spec.LeastChange: number 47, params [0, 1] -/
def spec_LeastChange_c : ACode := (.seq (.reg [⟨(some 3), .box 51 (.tmp 1), none⟩,
    ⟨(some 4), .assign (.const (.int .i64 0)), none⟩,
    ⟨(some 5), .alloc 51, none⟩,
    ⟨(some 6), .assign (.const (.bool false)), none⟩] [0, 3, 5])
  (.seq (.seq (.reg [⟨(some 11), .move (.tmp 0), none⟩,
    ⟨(some 12), .call ⟨.value (.func 81), #[(.tmp 11)], #[43]⟩, none⟩,
    ⟨(some 13), .unOp .not 4 (.tmp 12), none⟩,
    ⟨(some 14), .move (.tmp 13), none⟩,
    ⟨(some 15), .load 51 (.tmp 3), (some (some 14, false))⟩,
    ⟨(some 16), .call ⟨.value (.func 91), #[(.tmp 15)], #[51]⟩, (some (some 14, false))⟩,
    ⟨(some 17), .unOp .not 4 (.tmp 16), (some (some 14, false))⟩,
    ⟨(some 18), .pick (.tmp 14) (.const (.bool true)) (.tmp 17), none⟩] [0, 3, 5, 18])
  (.cond (.tmp 18) (.seq (.reg [⟨(some 19), .build 51 #[], none⟩,
    ⟨(some 4), .assign (.const (.int .i64 0)), none⟩,
    ⟨none, .store 51 (.tmp 5) (.tmp 19), none⟩,
    ⟨(some 6), .assign (.const (.bool false)), none⟩] [4, 5, 6])
  .ret)
  .skip))
  (.seq (.reg [⟨(some 21), .move (.tmp 0), none⟩,
    ⟨(some 22), .load 51 (.tmp 3), none⟩,
    ⟨(some 23), .build 76 #[(0, (.const (.int .i64 1))), (1, (.const (.int .i64 1))), (2, (.const (.int .i64 1))), (3, (.const (.int .i64 1)))], none⟩,
    ⟨(some 24), .call ⟨.value (.func 108), #[(.tmp 21), (.tmp 22), (.tmp 23)], #[43, 51, 76]⟩, none⟩,
    ⟨(some 20), .move (.tmp 24), none⟩,
    ⟨(some 25), .extract (.tmp 20) 0, none⟩,
    ⟨(some 26), .extract (.tmp 20) 1, none⟩,
    ⟨(some 7), .assign (.tmp 25), none⟩,
    ⟨(some 8), .assign (.tmp 26), none⟩] [0, 3, 5, 7, 8])
  (.seq (.seq (.reg [⟨(some 27), .move (.tmp 8), none⟩,
    ⟨(some 28), .unOp .not 4 (.tmp 27), none⟩] [0, 3, 5, 7, 28])
  (.cond (.tmp 28) (.seq (.reg [⟨(some 29), .build 51 #[], none⟩,
    ⟨(some 4), .assign (.const (.int .i64 0)), none⟩,
    ⟨none, .store 51 (.tmp 5) (.tmp 29), none⟩,
    ⟨(some 6), .assign (.const (.bool false)), none⟩] [4, 5, 6])
  .ret)
  .skip))
  (.seq (.reg [⟨(some 31), .move (.tmp 0), none⟩,
    ⟨(some 32), .load 51 (.tmp 3), none⟩,
    ⟨(some 33), .move (.tmp 7), none⟩,
    ⟨(some 34), .call ⟨.value (.func 109), #[(.tmp 31), (.tmp 32), (.tmp 33)], #[43, 51, 3]⟩, none⟩,
    ⟨(some 30), .move (.tmp 34), none⟩,
    ⟨(some 35), .extract (.tmp 30) 0, none⟩,
    ⟨(some 36), .extract (.tmp 30) 1, none⟩,
    ⟨(some 9), .alloc 51, none⟩,
    ⟨none, .store 51 (.tmp 9) (.tmp 35), none⟩,
    ⟨(some 10), .assign (.tmp 36), none⟩] [5, 7, 9])
  (.seq (.regT [⟨(some 37), .move (.tmp 7), none⟩,
    ⟨(some 38), .load 51 (.tmp 9), none⟩,
    ⟨(some 4), .assign (.tmp 37), none⟩]
    [⟨none, .store 51 (.tmp 5) (.tmp 38), none⟩,
    ⟨(some 6), .assign (.const (.bool true)), none⟩] [4, 5, 6])
  .ret))))))
theorem spec_LeastChange_k : fnOk Try.prog (fun _ => false) 47 = some (spec_LeastChange_c.strip, 39, [.tmp 4, .cell 5 51, .tmp 6]) := by kernel_rfl
/-- loop.example/g01062/impl.PossibleChanges: number 48, params [0, 1] -/
def impl_PossibleChanges_c : ACode := (.seq (.reg [⟨(some 3), .box 51 (.tmp 1), none⟩,
    ⟨(some 4), .assign (.const (.slice none 0 0)), none⟩,
    ⟨(some 5), .assign (.const (.bool false)), none⟩] [0, 3])
  (.seq (.seq (.reg [⟨(some 6), .move (.tmp 0), none⟩,
    ⟨(some 7), .call ⟨.value (.func 84), #[(.tmp 6)], #[43]⟩, none⟩,
    ⟨(some 8), .unOp .not 4 (.tmp 7), none⟩,
    ⟨(some 9), .move (.tmp 8), none⟩,
    ⟨(some 10), .load 51 (.tmp 3), (some (some 9, false))⟩,
    ⟨(some 11), .call ⟨.value (.func 90), #[(.tmp 10)], #[51]⟩, (some (some 9, false))⟩,
    ⟨(some 12), .unOp .not 4 (.tmp 11), (some (some 9, false))⟩,
    ⟨(some 13), .pick (.tmp 9) (.const (.bool true)) (.tmp 12), none⟩] [0, 3, 13])
  (.cond (.tmp 13) (.seq (.reg [⟨(some 4), .assign (.const (.slice none 0 0)), none⟩,
    ⟨(some 5), .assign (.const (.bool false)), none⟩] [4, 5])
  .ret)
  .skip))
  (.seq (.reg [⟨(some 14), .move (.tmp 0), none⟩,
    ⟨(some 15), .load 51 (.tmp 3), none⟩,
    ⟨(some 16), .call ⟨.value (.func 104), #[(.tmp 14), (.tmp 15)], #[43, 51]⟩, none⟩,
    ⟨(some 4), .assign (.tmp 16), none⟩,
    ⟨(some 5), .assign (.const (.bool true)), none⟩] [4, 5])
  .ret)))
theorem impl_PossibleChanges_k : fnOk Try.prog (fun _ => false) 48 = some (impl_PossibleChanges_c.strip, 17, [.tmp 4, .tmp 5]) := by kernel_rfl
/-- loop.example/g01062/spec.PossibleChanges: number 49, params [0, 1] -/
def spec_PossibleChanges_c : ACode := (.seq (.reg [⟨(some 3), .box 51 (.tmp 1), none⟩,
    ⟨(some 4), .assign (.const (.slice none 0 0)), none⟩,
    ⟨(some 5), .assign (.const (.bool false)), none⟩] [0, 3])
  (.seq (.seq (.reg [⟨(some 6), .move (.tmp 0), none⟩,
    ⟨(some 7), .call ⟨.value (.func 81), #[(.tmp 6)], #[43]⟩, none⟩,
    ⟨(some 8), .unOp .not 4 (.tmp 7), none⟩,
    ⟨(some 9), .move (.tmp 8), none⟩,
    ⟨(some 10), .load 51 (.tmp 3), (some (some 9, false))⟩,
    ⟨(some 11), .call ⟨.value (.func 91), #[(.tmp 10)], #[51]⟩, (some (some 9, false))⟩,
    ⟨(some 12), .unOp .not 4 (.tmp 11), (some (some 9, false))⟩,
    ⟨(some 13), .pick (.tmp 9) (.const (.bool true)) (.tmp 12), none⟩] [0, 3, 13])
  (.cond (.tmp 13) (.seq (.reg [⟨(some 14), .buildSlice 26 0 #[], none⟩,
    ⟨(some 4), .assign (.tmp 14), none⟩,
    ⟨(some 5), .assign (.const (.bool false)), none⟩] [4, 5])
  .ret)
  .skip))
  (.seq (.reg [⟨(some 15), .move (.tmp 0), none⟩,
    ⟨(some 16), .load 51 (.tmp 3), none⟩,
    ⟨(some 17), .call ⟨.value (.func 110), #[(.tmp 15), (.tmp 16)], #[43, 51]⟩, none⟩,
    ⟨(some 4), .assign (.tmp 17), none⟩,
    ⟨(some 5), .assign (.const (.bool true)), none⟩] [4, 5])
  .ret)))
theorem spec_PossibleChanges_k : fnOk Try.prog (fun _ => false) 49 = some (spec_PossibleChanges_c.strip, 18, [.tmp 4, .tmp 5]) := by kernel_rfl
/-- loop.example/g01062/impl.IsExplained: number 50, params [0, 1] -/
def impl_IsExplained_c : ACode := (.seq (.reg [⟨(some 3), .box 51 (.tmp 1), none⟩,
    ⟨(some 4), .assign (.const (.bool false)), none⟩,
    ⟨(some 5), .assign (.const (.bool false)), none⟩] [0, 3])
  (.seq (.seq (.reg [⟨(some 8), .move (.tmp 0), none⟩,
    ⟨(some 9), .call ⟨.value (.func 84), #[(.tmp 8)], #[43]⟩, none⟩,
    ⟨(some 10), .unOp .not 4 (.tmp 9), none⟩,
    ⟨(some 11), .move (.tmp 10), none⟩,
    ⟨(some 12), .load 51 (.tmp 3), (some (some 11, false))⟩,
    ⟨(some 13), .call ⟨.value (.func 90), #[(.tmp 12)], #[51]⟩, (some (some 11, false))⟩,
    ⟨(some 14), .unOp .not 4 (.tmp 13), (some (some 11, false))⟩,
    ⟨(some 15), .pick (.tmp 11) (.const (.bool true)) (.tmp 14), none⟩] [0, 3, 15])
  (.cond (.tmp 15) (.seq (.reg [⟨(some 4), .assign (.const (.bool false)), none⟩,
    ⟨(some 5), .assign (.const (.bool false)), none⟩] [4, 5])
  .ret)
  .skip))
  (.seq (.reg [⟨(some 17), .move (.tmp 0), none⟩,
    ⟨(some 18), .fieldAddr 51 (.tmp 3) 1, none⟩,
    ⟨(some 19), .load 3 (.tmp 18), none⟩,
    ⟨(some 20), .fieldAddr 51 (.tmp 3) 2, none⟩,
    ⟨(some 21), .load 3 (.tmp 20), none⟩,
    ⟨(some 22), .fieldAddr 51 (.tmp 3) 3, none⟩,
    ⟨(some 23), .load 3 (.tmp 22), none⟩,
    ⟨(some 24), .call ⟨.value (.func 92), #[(.tmp 17), (.tmp 19), (.tmp 21), (.tmp 23)], #[43, 3, 3, 3]⟩, none⟩,
    ⟨(some 16), .move (.tmp 24), none⟩,
    ⟨(some 25), .extract (.tmp 16) 0, none⟩,
    ⟨(some 26), .extract (.tmp 16) 1, none⟩,
    ⟨(some 6), .assign (.tmp 25), none⟩,
    ⟨(some 7), .assign (.tmp 26), none⟩] [3, 6, 7])
  (.seq (.reg [⟨(some 27), .move (.tmp 7), none⟩,
    ⟨(some 28), .move (.tmp 27), none⟩,
    ⟨(some 29), .move (.tmp 6), (some (some 28, true))⟩,
    ⟨(some 30), .fieldAddr 51 (.tmp 3) 4, (some (some 28, true))⟩,
    ⟨(some 31), .load 3 (.tmp 30), (some (some 28, true))⟩,
    ⟨(some 32), .binOp .eql 3 (.tmp 29) (.tmp 31) 3, (some (some 28, true))⟩,
    ⟨(some 33), .pick (.tmp 28) (.tmp 32) (.const (.bool false)), none⟩,
    ⟨(some 4), .assign (.tmp 33), none⟩,
    ⟨(some 5), .assign (.const (.bool true)), none⟩] [4, 5])
  .ret))))
theorem impl_IsExplained_k : fnOk Try.prog (fun _ => false) 50 = some (impl_IsExplained_c.strip, 34, [.tmp 4, .tmp 5]) := by kernel_rfl
/-- loop.example/g01062/spec.IsExplained: number 51, params [0, 1] -/
def spec_IsExplained_c : ACode := (.seq (.reg [⟨(some 3), .box 51 (.tmp 1), none⟩,
    ⟨(some 4), .assign (.const (.bool false)), none⟩,
    ⟨(some 5), .assign (.const (.bool false)), none⟩] [0, 3])
  (.seq (.seq (.reg [⟨(some 6), .move (.tmp 0), none⟩,
    ⟨(some 7), .call ⟨.value (.func 81), #[(.tmp 6)], #[43]⟩, none⟩,
    ⟨(some 8), .unOp .not 4 (.tmp 7), none⟩,
    ⟨(some 9), .move (.tmp 8), none⟩,
    ⟨(some 10), .load 51 (.tmp 3), (some (some 9, false))⟩,
    ⟨(some 11), .call ⟨.value (.func 91), #[(.tmp 10)], #[51]⟩, (some (some 9, false))⟩,
    ⟨(some 12), .unOp .not 4 (.tmp 11), (some (some 9, false))⟩,
    ⟨(some 13), .pick (.tmp 9) (.const (.bool true)) (.tmp 12), none⟩] [0, 3, 13])
  (.cond (.tmp 13) (.seq (.reg [⟨(some 4), .assign (.const (.bool false)), none⟩,
    ⟨(some 5), .assign (.const (.bool false)), none⟩] [4, 5])
  .ret)
  .skip))
  (.seq (.reg [⟨(some 14), .move (.tmp 0), none⟩,
    ⟨(some 15), .load 51 (.tmp 3), none⟩,
    ⟨(some 16), .call ⟨.value (.func 111), #[(.tmp 14), (.tmp 15)], #[43, 51]⟩, none⟩,
    ⟨(some 4), .assign (.tmp 16), none⟩,
    ⟨(some 5), .assign (.const (.bool true)), none⟩] [4, 5])
  .ret)))
theorem spec_IsExplained_k : fnOk Try.prog (fun _ => false) 51 = some (spec_IsExplained_c.strip, 17, [.tmp 4, .tmp 5]) := by kernel_rfl
/-- loop.example/g01062/impl.MakeCover: number 52, params [0, 1, 2] -/
def impl_MakeCover_c : ACode := (.seq (.reg [⟨(some 4), .box 51 (.tmp 1), none⟩,
    ⟨(some 6), .alloc 51, none⟩,
    ⟨(some 7), .assign (.const (.bool false)), none⟩] [0, 2, 4, 6])
  (.seq (.seq (.reg [⟨(some 8), .move (.tmp 0), none⟩,
    ⟨(some 9), .call ⟨.value (.func 84), #[(.tmp 8)], #[43]⟩, none⟩,
    ⟨(some 10), .unOp .not 4 (.tmp 9), none⟩,
    ⟨(some 11), .move (.tmp 10), none⟩,
    ⟨(some 12), .load 51 (.tmp 4), (some (some 11, false))⟩,
    ⟨(some 13), .call ⟨.value (.func 90), #[(.tmp 12)], #[51]⟩, (some (some 11, false))⟩,
    ⟨(some 14), .unOp .not 4 (.tmp 13), (some (some 11, false))⟩,
    ⟨(some 15), .pick (.tmp 11) (.const (.bool true)) (.tmp 14), none⟩,
    ⟨(some 16), .move (.tmp 15), none⟩,
    ⟨(some 17), .move (.tmp 2), (some (some 16, false))⟩,
    ⟨(some 18), .call ⟨.value (.func 101), #[(.tmp 17), (.const (.int .i64 0)), (.const (.int .i64 15))], #[3, 3, 3]⟩, (some (some 16, false))⟩,
    ⟨(some 19), .unOp .not 4 (.tmp 18), (some (some 16, false))⟩,
    ⟨(some 20), .pick (.tmp 16) (.const (.bool true)) (.tmp 19), none⟩] [0, 2, 4, 6, 20])
  (.cond (.tmp 20) (.seq (.reg [⟨(some 21), .build 51 #[], none⟩,
    ⟨none, .store 51 (.tmp 6) (.tmp 21), none⟩,
    ⟨(some 7), .assign (.const (.bool false)), none⟩] [6, 7])
  .ret)
  .skip))
  (.seq (.reg [⟨(some 22), .move (.tmp 0), none⟩,
    ⟨(some 23), .load 51 (.tmp 4), none⟩,
    ⟨(some 24), .move (.tmp 2), none⟩,
    ⟨(some 25), .call ⟨.value (.func 107), #[(.tmp 22), (.tmp 23), (.tmp 24)], #[43, 51, 3]⟩, none⟩,
    ⟨(some 26), .extract (.tmp 25) 0, none⟩,
    ⟨(some 27), .extract (.tmp 25) 1, none⟩,
    ⟨none, .store 51 (.tmp 6) (.tmp 26), none⟩,
    ⟨(some 7), .assign (.tmp 27), none⟩] [6, 7])
  .ret)))
theorem impl_MakeCover_k : fnOk Try.prog (fun _ => false) 52 = some (impl_MakeCover_c.strip, 28, [.cell 6 51, .tmp 7]) := by kernel_rfl
/-- head: [5, 9, 10, 12, 13, 36, 37, 38, 42, 43] -/
def impl_CheapestChange_l0 : ACode := (.seq (.reg [⟨(some 44), .binOp .lss 3 (.tmp 43) (.const (.int .i64 4)) 3, none⟩] [5, 9, 10, 12, 13, 36, 37, 38, 42, 43, 44])
  (.seq (.cond (.tmp 44) .skip
  (.exit 2))
  (.seq (.block 3 (.seq (.reg [⟨(some 45), .move (.tmp 43), none⟩,
    ⟨(some 46), .index 76 (.tmp 42) (.tmp 43), none⟩,
    ⟨(some 14), .assign (.tmp 45), none⟩,
    ⟨(some 15), .assign (.tmp 46), none⟩] [5, 9, 10, 12, 13, 14, 15, 36, 37, 38, 42, 43])
  (.seq (.reg [⟨(some 47), .move (.tmp 12), none⟩,
    ⟨(some 48), .move (.tmp 14), none⟩,
    ⟨(some 49), .binOp .shr 3 (.tmp 47) (.tmp 48) 3, none⟩,
    ⟨(some 50), .binOp .and 3 (.tmp 49) (.const (.int .i64 1)) 3, none⟩,
    ⟨(some 51), .binOp .eql 3 (.tmp 50) (.const (.int .i64 1)) 3, none⟩] [5, 9, 10, 12, 13, 15, 36, 37, 38, 42, 43, 51])
  (.cond (.tmp 51) (.reg [⟨(some 52), .move (.tmp 13), none⟩,
    ⟨(some 53), .move (.tmp 15), none⟩,
    ⟨(some 54), .binOp .add 3 (.tmp 52) (.tmp 53) 3, none⟩,
    ⟨(some 13), .assign (.tmp 54), none⟩] [5, 9, 10, 12, 13, 36, 37, 38, 42, 43])
  .skip))))
  (.reg [⟨(some 55), .binOp .add 3 (.tmp 43) (.const (.int .i64 1)) 3, none⟩,
    ⟨(some 43), .move (.tmp 55), none⟩] [5, 9, 10, 12, 13, 36, 37, 38, 42, 43]))))
/-- slots: [5, 9, 10, 12, 13, 36, 37, 38] -/
def impl_CheapestChange_r1 : ACode := (.cut [5, 9, 10, 12, 13, 36, 37, 38] (.seq (.reg [⟨(some 56), .move (.tmp 9), none⟩,
    ⟨(some 57), .binOp .lss 3 (.tmp 56) (.const (.int .i64 0)) 3, none⟩,
    ⟨(some 58), .move (.tmp 57), none⟩,
    ⟨(some 59), .move (.tmp 13), (some (some 58, false))⟩,
    ⟨(some 60), .move (.tmp 10), (some (some 58, false))⟩,
    ⟨(some 61), .call ⟨.value (.func 115), #[(.tmp 59), (.tmp 60)], #[3, 3]⟩, (some (some 58, false))⟩,
    ⟨(some 62), .move (.tmp 12), (some (some 58, false))⟩,
    ⟨(some 63), .move (.tmp 9), (some (some 58, false))⟩,
    ⟨(some 64), .call ⟨.value (.func 106), #[(.tmp 62), (.tmp 63)], #[3, 3]⟩, (some (some 58, false))⟩,
    ⟨(some 65), .buildSlice 26 2 #[(0, (.tmp 61)), (1, (.tmp 64))], (some (some 58, false))⟩,
    ⟨(some 66), .call ⟨.value (.func 114), #[(.tmp 65)], #[26]⟩, (some (some 58, false))⟩,
    ⟨(some 67), .binOp .lss 3 (.tmp 66) (.const (.int .i64 0)) 3, (some (some 58, false))⟩,
    ⟨(some 68), .pick (.tmp 58) (.const (.bool true)) (.tmp 67), none⟩] [5, 9, 10, 12, 13, 36, 37, 38, 68])
  (.cond (.tmp 68) (.reg [⟨(some 69), .move (.tmp 12), none⟩,
    ⟨(some 70), .move (.tmp 13), none⟩,
    ⟨(some 9), .assign (.tmp 69), none⟩,
    ⟨(some 10), .assign (.tmp 70), none⟩] [5, 9, 10, 36, 37, 38])
  .skip)))
/-- slots: [5, 9, 10, 36, 37, 38] -/
def impl_CheapestChange_r2 : ACode := (.cut [5, 9, 10, 36, 37, 38] (.reg [⟨(some 71), .binOp .add 3 (.tmp 38) (.const (.int .i64 1)) 3, none⟩,
    ⟨(some 38), .move (.tmp 71), none⟩] [5, 9, 10, 36, 37, 38]))
/-- head: [5, 9, 10, 36, 37, 38] -/
def impl_CheapestChange_l1 : ACode := (.seq (.reg [⟨(some 39), .binOp .lss 3 (.tmp 38) (.tmp 37) 3, none⟩] [5, 9, 10, 36, 37, 38, 39])
  (.seq (.cond (.tmp 39) .skip
  (.exit 0))
  (.seq (.block 1 (.seq (.reg [⟨(some 40), .indexAddr 26 (.tmp 36) (.tmp 38), none⟩,
    ⟨(some 41), .load 3 (.tmp 40), none⟩,
    ⟨(some 12), .assign (.tmp 41), none⟩] [5, 9, 10, 12, 36, 37, 38])
  (.seq (.reg [⟨(some 13), .assign (.const (.int .i64 0)), none⟩] [5, 9, 10, 12, 13, 36, 37, 38])
  (.seq (.seq (.reg [⟨(some 42), .load 76 (.tmp 5), none⟩,
    ⟨(some 43), .move (.const (.int .i64 0)), none⟩] [5, 9, 10, 12, 13, 36, 37, 38, 42, 43])
  (.block 2 (.loop impl_CheapestChange_l0)))
  impl_CheapestChange_r1))))
  impl_CheapestChange_r2)))
/-- slots: [9, 10] -/
def impl_CheapestChange_r4 : ACode := (.cut [9, 10] (.seq (.seq (.reg [⟨(some 72), .move (.tmp 9), none⟩,
    ⟨(some 73), .binOp .lss 3 (.tmp 72) (.const (.int .i64 0)) 3, none⟩] [9, 10, 73])
  (.cond (.tmp 73) (.seq (.reg [⟨(some 6), .assign (.const (.int .i64 0)), none⟩,
    ⟨(some 7), .assign (.const (.int .i64 0)), none⟩,
    ⟨(some 8), .assign (.const (.bool false)), none⟩] [6, 7, 8])
  .ret)
  .skip))
  (.seq (.reg [⟨(some 74), .move (.tmp 9), none⟩,
    ⟨(some 75), .move (.tmp 10), none⟩,
    ⟨(some 6), .assign (.tmp 74), none⟩,
    ⟨(some 7), .assign (.tmp 75), none⟩,
    ⟨(some 8), .assign (.const (.bool true)), none⟩] [6, 7, 8])
  .ret)))
/-- loop.example/g01062/impl.CheapestChange: number 53, params [0, 1, 2] -/
def impl_CheapestChange_c : ACode := (.seq (.reg [⟨(some 4), .box 51 (.tmp 1), none⟩,
    ⟨(some 5), .box 76 (.tmp 2), none⟩,
    ⟨(some 6), .assign (.const (.int .i64 0)), none⟩,
    ⟨(some 7), .assign (.const (.int .i64 0)), none⟩,
    ⟨(some 8), .assign (.const (.bool false)), none⟩] [0, 4, 5])
  (.seq (.seq (.reg [⟨(some 16), .move (.tmp 0), none⟩,
    ⟨(some 17), .call ⟨.value (.func 84), #[(.tmp 16)], #[43]⟩, none⟩,
    ⟨(some 18), .unOp .not 4 (.tmp 17), none⟩,
    ⟨(some 19), .move (.tmp 18), none⟩,
    ⟨(some 20), .load 51 (.tmp 4), (some (some 19, false))⟩,
    ⟨(some 21), .call ⟨.value (.func 90), #[(.tmp 20)], #[51]⟩, (some (some 19, false))⟩,
    ⟨(some 22), .unOp .not 4 (.tmp 21), (some (some 19, false))⟩,
    ⟨(some 23), .pick (.tmp 19) (.const (.bool true)) (.tmp 22), none⟩,
    ⟨(some 24), .move (.tmp 23), none⟩,
    ⟨(some 25), .slice 76 (.tmp 5) none none none, (some (some 24, false))⟩,
    ⟨(some 26), .call ⟨.value (.func 112), #[(.tmp 25)], #[26]⟩, (some (some 24, false))⟩,
    ⟨(some 27), .binOp .lss 3 (.tmp 26) (.const (.int .i64 0)) 3, (some (some 24, false))⟩,
    ⟨(some 28), .pick (.tmp 24) (.const (.bool true)) (.tmp 27), none⟩,
    ⟨(some 29), .move (.tmp 28), none⟩,
    ⟨(some 30), .slice 76 (.tmp 5) none none none, (some (some 29, false))⟩,
    ⟨(some 31), .call ⟨.value (.func 113), #[(.tmp 30)], #[26]⟩, (some (some 29, false))⟩,
    ⟨(some 32), .binOp .gtr 3 (.tmp 31) (.const (.int .i64 1000)) 3, (some (some 29, false))⟩,
    ⟨(some 33), .pick (.tmp 29) (.const (.bool true)) (.tmp 32), none⟩] [0, 4, 5, 33])
  (.cond (.tmp 33) (.seq (.reg [⟨(some 6), .assign (.const (.int .i64 0)), none⟩,
    ⟨(some 7), .assign (.const (.int .i64 0)), none⟩,
    ⟨(some 8), .assign (.const (.bool false)), none⟩] [6, 7, 8])
  .ret)
  .skip))
  (.seq (.reg [⟨(some 9), .assign (.const (.int .i64 (-1))), none⟩,
    ⟨(some 10), .assign (.const (.int .i64 0)), none⟩] [0, 4, 5, 9, 10])
  (.seq (.seq (.reg [⟨(some 34), .move (.tmp 0), none⟩,
    ⟨(some 35), .load 51 (.tmp 4), none⟩,
    ⟨(some 36), .call ⟨.value (.func 104), #[(.tmp 34), (.tmp 35)], #[43, 51]⟩, none⟩,
    ⟨(some 37), .call ⟨.builtin .len, #[(.tmp 36)], #[26]⟩, none⟩,
    ⟨(some 38), .move (.const (.int .i64 0)), none⟩] [5, 9, 10, 36, 37, 38])
  (.block 0 (.loop impl_CheapestChange_l1)))
  impl_CheapestChange_r4))))
theorem impl_CheapestChange_k : fnOk Try.prog (fun _ => false) 53 = some (impl_CheapestChange_c.strip, 76, [.tmp 6, .tmp 7, .tmp 8]) := by kernel_rfl
/-- head: [0, 1, 5] -/
def laws_vHas_l0 : ACode := (.seq (.seq (.reg [⟨(some 6), .move (.tmp 5), none⟩,
    ⟨(some 7), .move (.tmp 0), none⟩,
    ⟨(some 8), .call ⟨.builtin .len, #[(.tmp 7)], #[26]⟩, none⟩,
    ⟨(some 9), .binOp .lss 3 (.tmp 6) (.tmp 8) 3, none⟩] [0, 1, 5, 9])
  (.cond (.tmp 9) .skip
  (.exit 0)))
  (.seq (.block 1 (.seq (.reg [⟨(some 12), .move (.tmp 0), none⟩,
    ⟨(some 13), .move (.tmp 5), none⟩,
    ⟨(some 14), .indexAddr 26 (.tmp 12) (.tmp 13), none⟩,
    ⟨(some 15), .load 3 (.tmp 14), none⟩,
    ⟨(some 16), .move (.tmp 1), none⟩,
    ⟨(some 17), .binOp .eql 3 (.tmp 15) (.tmp 16) 3, none⟩] [0, 1, 5, 17])
  (.cond (.tmp 17) (.seq (.reg [⟨(some 4), .assign (.const (.bool true)), none⟩] [4])
  .ret)
  .skip)))
  (.reg [⟨(some 10), .move (.tmp 5), none⟩,
    ⟨(some 11), .binOp .add 3 (.tmp 10) (.const (.int .i64 1)) 3, none⟩,
    ⟨(some 5), .assign (.tmp 11), none⟩] [0, 1, 5])))
/-- loop.example/g01062/laws.vHas: number 54, params [0, 1] -/
def laws_vHas_c : ACode := (.seq (.reg [⟨(some 4), .assign (.const (.bool false)), none⟩] [0, 1])
  (.seq (.seq (.reg [⟨(some 5), .assign (.const (.int .i64 0)), none⟩] [0, 1, 5])
  (.block 0 (.loop laws_vHas_l0)))
  (.seq (.reg [⟨(some 4), .assign (.const (.bool false)), none⟩] [4])
  .ret)))
theorem laws_vHas_k : fnOk Try.prog (fun _ => false) 54 = some (laws_vHas_c.strip, 18, [.tmp 4]) := by kernel_rfl
/-- head: [6, 7, 21, 22, 23] -/
def impl_NeededChanges_l0 : ACode := (.seq (.reg [⟨(some 24), .binOp .lss 3 (.tmp 23) (.tmp 22) 3, none⟩] [6, 7, 21, 22, 23, 24])
  (.seq (.cond (.tmp 24) .skip
  (.exit 0))
  (.seq (.block 1 (.seq (.reg [⟨(some 25), .indexAddr 26 (.tmp 21) (.tmp 23), none⟩,
    ⟨(some 26), .load 3 (.tmp 25), none⟩,
    ⟨(some 9), .assign (.tmp 26), none⟩] [6, 7, 9, 21, 22, 23])
  (.reg [⟨(some 27), .move (.tmp 7), none⟩,
    ⟨(some 28), .move (.tmp 9), none⟩,
    ⟨(some 29), .binOp .and 3 (.tmp 27) (.tmp 28) 3, none⟩,
    ⟨(some 7), .assign (.tmp 29), none⟩] [6, 7, 21, 22, 23])))
  (.reg [⟨(some 30), .binOp .add 3 (.tmp 23) (.const (.int .i64 1)) 3, none⟩,
    ⟨(some 23), .move (.tmp 30), none⟩] [6, 7, 21, 22, 23]))))
/-- loop.example/g01062/impl.NeededChanges: number 55, params [0, 1] -/
def impl_NeededChanges_c : ACode := (.seq (.reg [⟨(some 3), .box 51 (.tmp 1), none⟩,
    ⟨(some 4), .assign (.const (.int .i64 0)), none⟩,
    ⟨(some 5), .assign (.const (.bool false)), none⟩] [0, 3])
  (.seq (.seq (.reg [⟨(some 10), .move (.tmp 0), none⟩,
    ⟨(some 11), .call ⟨.value (.func 84), #[(.tmp 10)], #[43]⟩, none⟩,
    ⟨(some 12), .unOp .not 4 (.tmp 11), none⟩,
    ⟨(some 13), .move (.tmp 12), none⟩,
    ⟨(some 14), .load 51 (.tmp 3), (some (some 13, false))⟩,
    ⟨(some 15), .call ⟨.value (.func 90), #[(.tmp 14)], #[51]⟩, (some (some 13, false))⟩,
    ⟨(some 16), .unOp .not 4 (.tmp 15), (some (some 13, false))⟩,
    ⟨(some 17), .pick (.tmp 13) (.const (.bool true)) (.tmp 16), none⟩] [0, 3, 17])
  (.cond (.tmp 17) (.seq (.reg [⟨(some 4), .assign (.const (.int .i64 0)), none⟩,
    ⟨(some 5), .assign (.const (.bool false)), none⟩] [4, 5])
  .ret)
  .skip))
  (.seq (.reg [⟨(some 18), .move (.tmp 0), none⟩,
    ⟨(some 19), .load 51 (.tmp 3), none⟩,
    ⟨(some 20), .call ⟨.value (.func 104), #[(.tmp 18), (.tmp 19)], #[43, 51]⟩, none⟩,
    ⟨(some 6), .assign (.tmp 20), none⟩] [6])
  (.seq (.reg [⟨(some 7), .assign (.const (.int .i64 15)), none⟩] [6, 7])
  (.seq (.seq (.reg [⟨(some 21), .move (.tmp 6), none⟩,
    ⟨(some 22), .call ⟨.builtin .len, #[(.tmp 21)], #[26]⟩, none⟩,
    ⟨(some 23), .move (.const (.int .i64 0)), none⟩] [6, 7, 21, 22, 23])
  (.block 0 (.loop impl_NeededChanges_l0)))
  (.seq (.seq (.reg [⟨(some 31), .move (.tmp 6), none⟩,
    ⟨(some 32), .call ⟨.builtin .len, #[(.tmp 31)], #[26]⟩, none⟩,
    ⟨(some 33), .binOp .eql 3 (.tmp 32) (.const (.int .i64 0)) 3, none⟩] [7, 33])
  (.cond (.tmp 33) (.seq (.reg [⟨(some 4), .assign (.const (.int .i64 0)), none⟩,
    ⟨(some 5), .assign (.const (.bool false)), none⟩] [4, 5])
  .ret)
  .skip))
  (.seq (.reg [⟨(some 34), .move (.tmp 7), none⟩,
    ⟨(some 4), .assign (.tmp 34), none⟩,
    ⟨(some 5), .assign (.const (.bool true)), none⟩] [4, 5])
  .ret)))))))
theorem impl_NeededChanges_k : fnOk Try.prog (fun _ => false) 55 = some (impl_NeededChanges_c.strip, 35, [.tmp 4, .tmp 5]) := by kernel_rfl
/-- head: [6, 7, 8, 9, 10] -/
def spec_NeededChanges_l0 : ACode := (.seq (.seq (.reg [⟨(some 26), .move (.tmp 10), none⟩,
    ⟨(some 27), .move (.tmp 6), none⟩,
    ⟨(some 28), .call ⟨.builtin .len, #[(.tmp 27)], #[26]⟩, none⟩,
    ⟨(some 29), .binOp .lss 3 (.tmp 26) (.tmp 28) 3, none⟩] [6, 7, 8, 9, 10, 29])
  (.cond (.tmp 29) .skip
  (.exit 2)))
  (.seq (.block 3 (.seq (.reg [⟨(some 32), .move (.tmp 6), none⟩,
    ⟨(some 33), .move (.tmp 10), none⟩,
    ⟨(some 34), .indexAddr 26 (.tmp 32) (.tmp 33), none⟩,
    ⟨(some 35), .load 3 (.tmp 34), none⟩,
    ⟨(some 36), .move (.tmp 8), none⟩,
    ⟨(some 37), .call ⟨.value (.func 116), #[(.tmp 35), (.tmp 36)], #[3, 3]⟩, none⟩] [6, 7, 8, 9, 10, 37])
  (.cond (.tmp 37) (.reg [⟨(some 38), .move (.tmp 9), none⟩,
    ⟨(some 39), .binOp .add 3 (.tmp 38) (.const (.int .i64 1)) 3, none⟩,
    ⟨(some 9), .assign (.tmp 39), none⟩] [6, 7, 8, 9, 10])
  .skip)))
  (.reg [⟨(some 30), .move (.tmp 10), none⟩,
    ⟨(some 31), .binOp .add 3 (.tmp 30) (.const (.int .i64 1)) 3, none⟩,
    ⟨(some 10), .assign (.tmp 31), none⟩] [6, 7, 8, 9, 10])))
/-- head: [6, 7, 8] -/
def spec_NeededChanges_l1 : ACode := (.seq (.seq (.reg [⟨(some 22), .move (.tmp 8), none⟩,
    ⟨(some 23), .binOp .leq 3 (.tmp 22) (.const (.int .i64 8)) 3, none⟩] [6, 7, 8, 23])
  (.cond (.tmp 23) .skip
  (.exit 0)))
  (.seq (.block 1 (.seq (.reg [⟨(some 9), .assign (.const (.int .i64 0)), none⟩] [6, 7, 8, 9])
  (.seq (.seq (.reg [⟨(some 10), .assign (.const (.int .i64 0)), none⟩] [6, 7, 8, 9, 10])
  (.block 2 (.loop spec_NeededChanges_l0)))
  (.seq (.reg [⟨(some 40), .move (.tmp 9), none⟩,
    ⟨(some 41), .move (.tmp 6), none⟩,
    ⟨(some 42), .call ⟨.builtin .len, #[(.tmp 41)], #[26]⟩, none⟩,
    ⟨(some 43), .binOp .eql 3 (.tmp 40) (.tmp 42) 3, none⟩] [6, 7, 8, 43])
  (.cond (.tmp 43) (.reg [⟨(some 44), .move (.tmp 7), none⟩,
    ⟨(some 45), .move (.tmp 8), none⟩,
    ⟨(some 46), .binOp .add 3 (.tmp 44) (.tmp 45) 3, none⟩,
    ⟨(some 7), .assign (.tmp 46), none⟩] [6, 7, 8])
  .skip)))))
  (.reg [⟨(some 24), .move (.tmp 8), none⟩,
    ⟨(some 25), .binOp .mul 3 (.const (.int .i64 2)) (.tmp 24) 3, none⟩,
    ⟨(some 8), .assign (.tmp 25), none⟩] [6, 7, 8])))
/-- loop.example/g01062/spec.NeededChanges: number 56, params [0, 1] -/
def spec_NeededChanges_c : ACode := (.seq (.reg [⟨(some 3), .box 51 (.tmp 1), none⟩,
    ⟨(some 4), .assign (.const (.int .i64 0)), none⟩,
    ⟨(some 5), .assign (.const (.bool false)), none⟩] [0, 3])
  (.seq (.seq (.reg [⟨(some 11), .move (.tmp 0), none⟩,
    ⟨(some 12), .call ⟨.value (.func 81), #[(.tmp 11)], #[43]⟩, none⟩,
    ⟨(some 13), .unOp .not 4 (.tmp 12), none⟩,
    ⟨(some 14), .move (.tmp 13), none⟩,
    ⟨(some 15), .load 51 (.tmp 3), (some (some 14, false))⟩,
    ⟨(some 16), .call ⟨.value (.func 91), #[(.tmp 15)], #[51]⟩, (some (some 14, false))⟩,
    ⟨(some 17), .unOp .not 4 (.tmp 16), (some (some 14, false))⟩,
    ⟨(some 18), .pick (.tmp 14) (.const (.bool true)) (.tmp 17), none⟩] [0, 3, 18])
  (.cond (.tmp 18) (.seq (.reg [⟨(some 4), .assign (.const (.int .i64 0)), none⟩,
    ⟨(some 5), .assign (.const (.bool false)), none⟩] [4, 5])
  .ret)
  .skip))
  (.seq (.reg [⟨(some 19), .move (.tmp 0), none⟩,
    ⟨(some 20), .load 51 (.tmp 3), none⟩,
    ⟨(some 21), .call ⟨.value (.func 110), #[(.tmp 19), (.tmp 20)], #[43, 51]⟩, none⟩,
    ⟨(some 6), .assign (.tmp 21), none⟩] [6])
  (.seq (.reg [⟨(some 7), .assign (.const (.int .i64 0)), none⟩] [6, 7])
  (.seq (.seq (.reg [⟨(some 8), .assign (.const (.int .i64 1)), none⟩] [6, 7, 8])
  (.block 0 (.loop spec_NeededChanges_l1)))
  (.seq (.seq (.reg [⟨(some 47), .move (.tmp 6), none⟩,
    ⟨(some 48), .call ⟨.builtin .len, #[(.tmp 47)], #[26]⟩, none⟩,
    ⟨(some 49), .binOp .eql 3 (.tmp 48) (.const (.int .i64 0)) 3, none⟩] [7, 49])
  (.cond (.tmp 49) (.seq (.reg [⟨(some 4), .assign (.const (.int .i64 0)), none⟩,
    ⟨(some 5), .assign (.const (.bool false)), none⟩] [4, 5])
  .ret)
  .skip))
  (.seq (.reg [⟨(some 50), .move (.tmp 7), none⟩,
    ⟨(some 4), .assign (.tmp 50), none⟩,
    ⟨(some 5), .assign (.const (.bool true)), none⟩] [4, 5])
  .ret)))))))
theorem spec_NeededChanges_k : fnOk Try.prog (fun _ => false) 56 = some (spec_NeededChanges_c.strip, 51, [.tmp 4, .tmp 5]) := by kernel_rfl
/-- loop.example/g01062/spec.MakeCover: number 58, params [0, 1, 2] -/
def spec_MakeCover_c : ACode := (.seq (.reg [⟨(some 4), .box 51 (.tmp 1), none⟩,
    ⟨(some 6), .alloc 51, none⟩,
    ⟨(some 7), .assign (.const (.bool false)), none⟩] [0, 2, 4, 6])
  (.seq (.seq (.reg [⟨(some 10), .move (.tmp 0), none⟩,
    ⟨(some 11), .call ⟨.value (.func 81), #[(.tmp 10)], #[43]⟩, none⟩,
    ⟨(some 12), .unOp .not 4 (.tmp 11), none⟩,
    ⟨(some 13), .move (.tmp 12), none⟩,
    ⟨(some 14), .load 51 (.tmp 4), (some (some 13, false))⟩,
    ⟨(some 15), .call ⟨.value (.func 91), #[(.tmp 14)], #[51]⟩, (some (some 13, false))⟩,
    ⟨(some 16), .unOp .not 4 (.tmp 15), (some (some 13, false))⟩,
    ⟨(some 17), .pick (.tmp 13) (.const (.bool true)) (.tmp 16), none⟩,
    ⟨(some 18), .move (.tmp 17), none⟩,
    ⟨(some 19), .move (.tmp 2), (some (some 18, false))⟩,
    ⟨(some 20), .call ⟨.value (.func 102), #[(.tmp 19), (.const (.int .i64 0)), (.const (.int .i64 15))], #[3, 3, 3]⟩, (some (some 18, false))⟩,
    ⟨(some 21), .unOp .not 4 (.tmp 20), (some (some 18, false))⟩,
    ⟨(some 22), .pick (.tmp 18) (.const (.bool true)) (.tmp 21), none⟩] [0, 2, 4, 6, 22])
  (.cond (.tmp 22) (.seq (.reg [⟨(some 23), .build 51 #[], none⟩,
    ⟨none, .store 51 (.tmp 6) (.tmp 23), none⟩,
    ⟨(some 7), .assign (.const (.bool false)), none⟩] [6, 7])
  .ret)
  .skip))
  (.seq (.reg [⟨(some 25), .move (.tmp 0), none⟩,
    ⟨(some 26), .load 51 (.tmp 4), none⟩,
    ⟨(some 27), .move (.tmp 2), none⟩,
    ⟨(some 28), .call ⟨.value (.func 109), #[(.tmp 25), (.tmp 26), (.tmp 27)], #[43, 51, 3]⟩, none⟩,
    ⟨(some 24), .move (.tmp 28), none⟩,
    ⟨(some 29), .extract (.tmp 24) 0, none⟩,
    ⟨(some 30), .extract (.tmp 24) 1, none⟩,
    ⟨(some 8), .alloc 51, none⟩,
    ⟨none, .store 51 (.tmp 8) (.tmp 29), none⟩,
    ⟨(some 9), .assign (.tmp 30), none⟩] [6, 8, 9])
  (.seq (.reg [⟨(some 31), .load 51 (.tmp 8), none⟩,
    ⟨(some 32), .move (.tmp 9), none⟩,
    ⟨none, .store 51 (.tmp 6) (.tmp 31), none⟩,
    ⟨(some 7), .assign (.tmp 32), none⟩] [6, 7])
  .ret))))
theorem spec_MakeCover_k : fnOk Try.prog (fun _ => false) 58 = some (spec_MakeCover_c.strip, 33, [.cell 6 51, .tmp 7]) := by kernel_rfl
/-- head: [0, 4, 5, 9] -/
def spec_CheapestChange_l0 : ACode := (.seq (.seq (.reg [⟨(some 12), .move (.tmp 9), none⟩,
    ⟨(some 13), .binOp .lss 3 (.tmp 12) (.const (.int .i64 4)) 3, none⟩] [0, 4, 5, 9, 13])
  (.cond (.tmp 13) .skip
  (.exit 0)))
  (.seq (.block 1 (.seq (.reg [⟨(some 16), .move (.tmp 9), none⟩,
    ⟨(some 17), .indexAddr 76 (.tmp 5) (.tmp 16), none⟩,
    ⟨(some 18), .load 3 (.tmp 17), none⟩,
    ⟨(some 19), .call ⟨.value (.func 102), #[(.tmp 18), (.const (.int .i64 0)), (.const (.int .i64 1000))], #[3, 3, 3]⟩, none⟩,
    ⟨(some 20), .unOp .not 4 (.tmp 19), none⟩] [0, 4, 5, 9, 20])
  (.cond (.tmp 20) (.seq (.reg [⟨(some 6), .assign (.const (.int .i64 0)), none⟩,
    ⟨(some 7), .assign (.const (.int .i64 0)), none⟩,
    ⟨(some 8), .assign (.const (.bool false)), none⟩] [6, 7, 8])
  .ret)
  .skip)))
  (.reg [⟨(some 14), .move (.tmp 9), none⟩,
    ⟨(some 15), .binOp .add 3 (.tmp 14) (.const (.int .i64 1)) 3, none⟩,
    ⟨(some 9), .assign (.tmp 15), none⟩] [0, 4, 5, 9])))
/-- loop.example/g01062/spec.CheapestChange: number 63, params [0, 1, 2] -/
def spec_CheapestChange_c : ACode := (.seq (.reg [⟨(some 4), .box 51 (.tmp 1), none⟩,
    ⟨(some 5), .box 76 (.tmp 2), none⟩,
    ⟨(some 6), .assign (.const (.int .i64 0)), none⟩,
    ⟨(some 7), .assign (.const (.int .i64 0)), none⟩,
    ⟨(some 8), .assign (.const (.bool false)), none⟩] [0, 4, 5])
  (.seq (.seq (.reg [⟨(some 9), .assign (.const (.int .i64 0)), none⟩] [0, 4, 5, 9])
  (.block 0 (.loop spec_CheapestChange_l0)))
  (.seq (.seq (.reg [⟨(some 21), .move (.tmp 0), none⟩,
    ⟨(some 22), .call ⟨.value (.func 81), #[(.tmp 21)], #[43]⟩, none⟩,
    ⟨(some 23), .unOp .not 4 (.tmp 22), none⟩,
    ⟨(some 24), .move (.tmp 23), none⟩,
    ⟨(some 25), .load 51 (.tmp 4), (some (some 24, false))⟩,
    ⟨(some 26), .call ⟨.value (.func 91), #[(.tmp 25)], #[51]⟩, (some (some 24, false))⟩,
    ⟨(some 27), .unOp .not 4 (.tmp 26), (some (some 24, false))⟩,
    ⟨(some 28), .pick (.tmp 24) (.const (.bool true)) (.tmp 27), none⟩] [0, 4, 5, 28])
  (.cond (.tmp 28) (.seq (.reg [⟨(some 6), .assign (.const (.int .i64 0)), none⟩,
    ⟨(some 7), .assign (.const (.int .i64 0)), none⟩,
    ⟨(some 8), .assign (.const (.bool false)), none⟩] [6, 7, 8])
  .ret)
  .skip))
  (.seq (.reg [⟨(some 30), .move (.tmp 0), none⟩,
    ⟨(some 31), .load 51 (.tmp 4), none⟩,
    ⟨(some 32), .load 76 (.tmp 5), none⟩,
    ⟨(some 33), .call ⟨.value (.func 108), #[(.tmp 30), (.tmp 31), (.tmp 32)], #[43, 51, 76]⟩, none⟩,
    ⟨(some 29), .move (.tmp 33), none⟩,
    ⟨(some 34), .extract (.tmp 29) 0, none⟩,
    ⟨(some 35), .extract (.tmp 29) 1, none⟩,
    ⟨(some 10), .assign (.tmp 34), none⟩,
    ⟨(some 11), .assign (.tmp 35), none⟩] [5, 10, 11])
  (.seq (.seq (.reg [⟨(some 36), .move (.tmp 11), none⟩,
    ⟨(some 37), .unOp .not 4 (.tmp 36), none⟩] [5, 10, 37])
  (.cond (.tmp 37) (.seq (.reg [⟨(some 6), .assign (.const (.int .i64 0)), none⟩,
    ⟨(some 7), .assign (.const (.int .i64 0)), none⟩,
    ⟨(some 8), .assign (.const (.bool false)), none⟩] [6, 7, 8])
  .ret)
  .skip))
  (.seq (.reg [⟨(some 38), .move (.tmp 10), none⟩,
    ⟨(some 39), .move (.tmp 10), none⟩,
    ⟨(some 40), .load 76 (.tmp 5), none⟩,
    ⟨(some 41), .call ⟨.value (.func 118), #[(.tmp 39), (.tmp 40)], #[3, 76]⟩, none⟩,
    ⟨(some 6), .assign (.tmp 38), none⟩,
    ⟨(some 7), .assign (.tmp 41), none⟩,
    ⟨(some 8), .assign (.const (.bool true)), none⟩] [6, 7, 8])
  .ret))))))
theorem spec_CheapestChange_k : fnOk Try.prog (fun _ => false) 63 = some (spec_CheapestChange_c.strip, 42, [.tmp 6, .tmp 7, .tmp 8]) := by kernel_rfl
/-- loop.example/g01062/spec.l9Office: number 69, params [0] -/
def spec_l9Office_c : ACode := (.seq (.reg [⟨(some 2), .assign (.const (.bool false)), none⟩] [0])
  (.seq (.reg [⟨(some 3), .move (.tmp 0), none⟩,
    ⟨(some 4), .call ⟨.value (.func 102), #[(.tmp 3), (.const (.int .i64 0)), (.const (.int .i64 9))], #[3, 3, 3]⟩, none⟩,
    ⟨(some 2), .assign (.tmp 4), none⟩] [2])
  .ret))
theorem spec_l9Office_k : fnOk Try.prog (fun _ => false) 69 = some (spec_l9Office_c.strip, 5, [.tmp 2]) := by kernel_rfl
/-- loop.example/g01062/laws.toCover: number 72, params [0] -/
def laws_toCover_c : ACode := (.seq (.reg [⟨(some 1), .box 93 (.tmp 0), none⟩,
    ⟨(some 2), .alloc 51, none⟩] [1, 2])
  (.seq (.reg [⟨(some 3), .alloc 51, none⟩] [1, 2, 3])
  (.seq (.reg [⟨(some 4), .fieldAddr 93 (.tmp 1) 0, none⟩,
    ⟨(some 5), .load 3 (.tmp 4), none⟩,
    ⟨(some 6), .fieldAddr 51 (.tmp 3) 0, none⟩,
    ⟨none, .store 3 (.tmp 6) (.tmp 5), none⟩] [1, 2, 3])
  (.seq (.reg [⟨(some 7), .fieldAddr 93 (.tmp 1) 1, none⟩,
    ⟨(some 8), .load 3 (.tmp 7), none⟩,
    ⟨(some 9), .fieldAddr 51 (.tmp 3) 1, none⟩,
    ⟨none, .store 3 (.tmp 9) (.tmp 8), none⟩] [1, 2, 3])
  (.seq (.reg [⟨(some 10), .fieldAddr 93 (.tmp 1) 2, none⟩,
    ⟨(some 11), .load 3 (.tmp 10), none⟩,
    ⟨(some 12), .fieldAddr 51 (.tmp 3) 2, none⟩,
    ⟨none, .store 3 (.tmp 12) (.tmp 11), none⟩] [1, 2, 3])
  (.seq (.reg [⟨(some 13), .fieldAddr 93 (.tmp 1) 3, none⟩,
    ⟨(some 14), .load 3 (.tmp 13), none⟩,
    ⟨(some 15), .fieldAddr 51 (.tmp 3) 3, none⟩,
    ⟨none, .store 3 (.tmp 15) (.tmp 14), none⟩] [1, 2, 3])
  (.seq (.reg [⟨(some 16), .fieldAddr 93 (.tmp 1) 4, none⟩,
    ⟨(some 17), .load 3 (.tmp 16), none⟩,
    ⟨(some 18), .fieldAddr 51 (.tmp 3) 4, none⟩,
    ⟨none, .store 3 (.tmp 18) (.tmp 17), none⟩] [1, 2, 3])
  (.seq (.reg [⟨(some 19), .fieldAddr 93 (.tmp 1) 5, none⟩,
    ⟨(some 20), .load 3 (.tmp 19), none⟩,
    ⟨(some 21), .fieldAddr 51 (.tmp 3) 5, none⟩,
    ⟨none, .store 3 (.tmp 21) (.tmp 20), none⟩] [1, 2, 3])
  (.seq (.reg [⟨(some 22), .fieldAddr 93 (.tmp 1) 6, none⟩,
    ⟨(some 23), .load 3 (.tmp 22), none⟩,
    ⟨(some 24), .fieldAddr 51 (.tmp 3) 6, none⟩,
    ⟨none, .store 3 (.tmp 24) (.tmp 23), none⟩] [1, 2, 3])
  (.seq (.reg [⟨(some 25), .fieldAddr 93 (.tmp 1) 7, none⟩,
    ⟨(some 26), .load 3 (.tmp 25), none⟩,
    ⟨(some 27), .fieldAddr 51 (.tmp 3) 7, none⟩,
    ⟨none, .store 3 (.tmp 27) (.tmp 26), none⟩] [1, 2, 3])
  (.seq (.reg [⟨(some 28), .fieldAddr 93 (.tmp 1) 8, none⟩,
    ⟨(some 29), .load 3 (.tmp 28), none⟩,
    ⟨(some 30), .fieldAddr 51 (.tmp 3) 8, none⟩,
    ⟨none, .store 3 (.tmp 30) (.tmp 29), none⟩] [2, 3])
  (.seq (.reg [⟨(some 31), .load 51 (.tmp 3), none⟩,
    ⟨none, .store 51 (.tmp 2) (.tmp 31), none⟩] [2])
  .ret))))))))))))
theorem laws_toCover_k : fnOk Try.prog (fun _ => false) 72 = some (laws_toCover_c.strip, 32, [.cell 2 51]) := by kernel_rfl
/-- loop.example/g01062/impl.isOffice: number 75, params [0] -/
def impl_isOffice_c : ACode := (.seq (.reg [⟨(some 2), .assign (.const (.bool false)), none⟩] [0])
  (.seq (.reg [⟨(some 3), .move (.tmp 0), none⟩,
    ⟨(some 4), .call ⟨.value (.func 101), #[(.tmp 3), (.const (.int .i64 0)), (.const (.int .i64 9))], #[3, 3, 3]⟩, none⟩,
    ⟨(some 2), .assign (.tmp 4), none⟩] [2])
  .ret))
theorem impl_isOffice_k : fnOk Try.prog (fun _ => false) 75 = some (impl_isOffice_c.strip, 5, [.tmp 2]) := by kernel_rfl
/-- loop.example/g01062/laws.eqCover: number 80, params [0, 1] -/
def laws_eqCover_c : ACode := (.seq (.reg [⟨(some 2), .box 51 (.tmp 0), none⟩,
    ⟨(some 3), .box 51 (.tmp 1), none⟩,
    ⟨(some 4), .assign (.const (.bool false)), none⟩] [2, 3])
  (.seq (.seq (.reg [⟨(some 5), .fieldAddr 51 (.tmp 2) 0, none⟩,
    ⟨(some 6), .load 3 (.tmp 5), none⟩,
    ⟨(some 7), .fieldAddr 51 (.tmp 3) 0, none⟩,
    ⟨(some 8), .load 3 (.tmp 7), none⟩,
    ⟨(some 9), .binOp .neq 3 (.tmp 6) (.tmp 8) 3, none⟩] [2, 3, 9])
  (.cond (.tmp 9) (.seq (.reg [⟨(some 4), .assign (.const (.bool false)), none⟩] [4])
  .ret)
  .skip))
  (.seq (.seq (.reg [⟨(some 10), .fieldAddr 51 (.tmp 2) 1, none⟩,
    ⟨(some 11), .load 3 (.tmp 10), none⟩,
    ⟨(some 12), .fieldAddr 51 (.tmp 3) 1, none⟩,
    ⟨(some 13), .load 3 (.tmp 12), none⟩,
    ⟨(some 14), .binOp .neq 3 (.tmp 11) (.tmp 13) 3, none⟩] [2, 3, 14])
  (.cond (.tmp 14) (.seq (.reg [⟨(some 4), .assign (.const (.bool false)), none⟩] [4])
  .ret)
  .skip))
  (.seq (.seq (.reg [⟨(some 15), .fieldAddr 51 (.tmp 2) 2, none⟩,
    ⟨(some 16), .load 3 (.tmp 15), none⟩,
    ⟨(some 17), .fieldAddr 51 (.tmp 3) 2, none⟩,
    ⟨(some 18), .load 3 (.tmp 17), none⟩,
    ⟨(some 19), .binOp .neq 3 (.tmp 16) (.tmp 18) 3, none⟩] [2, 3, 19])
  (.cond (.tmp 19) (.seq (.reg [⟨(some 4), .assign (.const (.bool false)), none⟩] [4])
  .ret)
  .skip))
  (.seq (.seq (.reg [⟨(some 20), .fieldAddr 51 (.tmp 2) 3, none⟩,
    ⟨(some 21), .load 3 (.tmp 20), none⟩,
    ⟨(some 22), .fieldAddr 51 (.tmp 3) 3, none⟩,
    ⟨(some 23), .load 3 (.tmp 22), none⟩,
    ⟨(some 24), .binOp .neq 3 (.tmp 21) (.tmp 23) 3, none⟩] [2, 3, 24])
  (.cond (.tmp 24) (.seq (.reg [⟨(some 4), .assign (.const (.bool false)), none⟩] [4])
  .ret)
  .skip))
  (.seq (.seq (.reg [⟨(some 25), .fieldAddr 51 (.tmp 2) 4, none⟩,
    ⟨(some 26), .load 3 (.tmp 25), none⟩,
    ⟨(some 27), .fieldAddr 51 (.tmp 3) 4, none⟩,
    ⟨(some 28), .load 3 (.tmp 27), none⟩,
    ⟨(some 29), .binOp .neq 3 (.tmp 26) (.tmp 28) 3, none⟩] [2, 3, 29])
  (.cond (.tmp 29) (.seq (.reg [⟨(some 4), .assign (.const (.bool false)), none⟩] [4])
  .ret)
  .skip))
  (.seq (.seq (.reg [⟨(some 30), .fieldAddr 51 (.tmp 2) 5, none⟩,
    ⟨(some 31), .load 3 (.tmp 30), none⟩,
    ⟨(some 32), .fieldAddr 51 (.tmp 3) 5, none⟩,
    ⟨(some 33), .load 3 (.tmp 32), none⟩,
    ⟨(some 34), .binOp .neq 3 (.tmp 31) (.tmp 33) 3, none⟩] [2, 3, 34])
  (.cond (.tmp 34) (.seq (.reg [⟨(some 4), .assign (.const (.bool false)), none⟩] [4])
  .ret)
  .skip))
  (.seq (.seq (.reg [⟨(some 35), .fieldAddr 51 (.tmp 2) 6, none⟩,
    ⟨(some 36), .load 3 (.tmp 35), none⟩,
    ⟨(some 37), .fieldAddr 51 (.tmp 3) 6, none⟩,
    ⟨(some 38), .load 3 (.tmp 37), none⟩,
    ⟨(some 39), .binOp .neq 3 (.tmp 36) (.tmp 38) 3, none⟩] [2, 3, 39])
  (.cond (.tmp 39) (.seq (.reg [⟨(some 4), .assign (.const (.bool false)), none⟩] [4])
  .ret)
  .skip))
  (.seq (.seq (.reg [⟨(some 40), .fieldAddr 51 (.tmp 2) 7, none⟩,
    ⟨(some 41), .load 3 (.tmp 40), none⟩,
    ⟨(some 42), .fieldAddr 51 (.tmp 3) 7, none⟩,
    ⟨(some 43), .load 3 (.tmp 42), none⟩,
    ⟨(some 44), .binOp .neq 3 (.tmp 41) (.tmp 43) 3, none⟩] [2, 3, 44])
  (.cond (.tmp 44) (.seq (.reg [⟨(some 4), .assign (.const (.bool false)), none⟩] [4])
  .ret)
  .skip))
  (.seq (.seq (.reg [⟨(some 45), .fieldAddr 51 (.tmp 2) 8, none⟩,
    ⟨(some 46), .load 3 (.tmp 45), none⟩,
    ⟨(some 47), .fieldAddr 51 (.tmp 3) 8, none⟩,
    ⟨(some 48), .load 3 (.tmp 47), none⟩,
    ⟨(some 49), .binOp .neq 3 (.tmp 46) (.tmp 48) 3, none⟩] [49])
  (.cond (.tmp 49) (.seq (.reg [⟨(some 4), .assign (.const (.bool false)), none⟩] [4])
  .ret)
  .skip))
  (.seq (.reg [⟨(some 4), .assign (.const (.bool true)), none⟩] [4])
  .ret)))))))))))
theorem laws_eqCover_k : fnOk Try.prog (fun _ => false) 80 = some (laws_eqCover_c.strip, 50, [.tmp 4]) := by kernel_rfl
/-- head: [0, 3] -/
def spec_l8Good_l0 : ACode := (.seq (.seq (.reg [⟨(some 4), .move (.tmp 3), none⟩,
    ⟨(some 5), .move (.tmp 0), none⟩,
    ⟨(some 6), .call ⟨.builtin .len, #[(.tmp 5)], #[43]⟩, none⟩,
    ⟨(some 7), .binOp .lss 3 (.tmp 4) (.tmp 6) 3, none⟩,
    ⟨(some 8), .move (.tmp 7), none⟩,
    ⟨(some 9), .move (.tmp 3), (some (some 8, true))⟩,
    ⟨(some 10), .binOp .leq 3 (.tmp 9) (.const (.int .i64 16)) 3, (some (some 8, true))⟩,
    ⟨(some 11), .pick (.tmp 8) (.tmp 10) (.const (.bool false)), none⟩] [0, 3, 11])
  (.cond (.tmp 11) .skip
  (.exit 0)))
  (.seq (.block 1 (.seq (.seq (.regQ [⟨(some 14), .move (.tmp 0), none⟩,
    ⟨(some 15), .move (.tmp 3), none⟩,
    ⟨(some 16), .indexAddr 43 (.tmp 14) (.tmp 15), none⟩,
    ⟨(some 17), .load 100 (.tmp 16), none⟩,
    ⟨(some 18), .call ⟨.value (.func 128), #[(.tmp 17)], #[100]⟩, none⟩,
    ⟨(some 19), .unOp .not 4 (.tmp 18), none⟩,
    ⟨(some 20), .move (.tmp 19), none⟩,
    ⟨(some 21), .move (.tmp 3), (some (some 20, false))⟩,
    ⟨(some 22), .binOp .gtr 3 (.tmp 21) (.const (.int .i64 0)) 3, (some (some 20, false))⟩,
    ⟨(some 23), .move (.tmp 22), (some (some 20, false))⟩,
    ⟨(some 24), .move (.tmp 0), (some (some 23, true))⟩,
    ⟨(some 25), .move (.tmp 3), (some (some 23, true))⟩,
    ⟨(some 26), .binOp .sub 3 (.tmp 25) (.const (.int .i64 1)) 3, (some (some 23, true))⟩,
    ⟨(some 27), .indexAddr 43 (.tmp 24) (.tmp 26), (some (some 23, true))⟩,
    ⟨(some 28), .load 100 (.tmp 27), (some (some 23, true))⟩,
    ⟨(some 29), .call ⟨.value (.func 129), #[(.tmp 28)], #[100]⟩, (some (some 23, true))⟩,
    ⟨(some 30), .move (.tmp 0), (some (some 23, true))⟩,
    ⟨(some 31), .move (.tmp 3), (some (some 23, true))⟩,
    ⟨(some 32), .indexAddr 43 (.tmp 30) (.tmp 31), (some (some 23, true))⟩,
    ⟨(some 33), .load 100 (.tmp 32), (some (some 23, true))⟩,
    ⟨(some 34), .call ⟨.value (.func 129), #[(.tmp 33)], #[100]⟩, (some (some 23, true))⟩,
    ⟨(some 35), .binOp .geq 3 (.tmp 29) (.tmp 34) 3, (some (some 23, true))⟩,
    ⟨(some 36), .pick (.tmp 23) (.tmp 35) (.const (.bool false)), (some (some 20, false))⟩,
    ⟨(some 37), .pick (.tmp 20) (.const (.bool true)) (.tmp 36), none⟩] [0, 3, 37])
  (.cond (.tmp 37) (.seq (.reg [⟨(some 2), .assign (.const (.bool false)), none⟩] [2])
  .ret)
  .skip))
  (.seq (.regQ [⟨(some 38), .move (.tmp 3), none⟩,
    ⟨(some 39), .binOp .gtr 3 (.tmp 38) (.const (.int .i64 0)) 3, none⟩,
    ⟨(some 40), .move (.tmp 39), none⟩,
    ⟨(some 41), .move (.tmp 0), (some (some 40, true))⟩,
    ⟨(some 42), .move (.tmp 3), (some (some 40, true))⟩,
    ⟨(some 43), .binOp .sub 3 (.tmp 42) (.const (.int .i64 1)) 3, (some (some 40, true))⟩,
    ⟨(some 44), .indexAddr 43 (.tmp 41) (.tmp 43), (some (some 40, true))⟩,
    ⟨(some 45), .fieldAddr 100 (.tmp 44) 0, (some (some 40, true))⟩,
    ⟨(some 46), .load 3 (.tmp 45), (some (some 40, true))⟩,
    ⟨(some 47), .move (.tmp 0), (some (some 40, true))⟩,
    ⟨(some 48), .move (.tmp 3), (some (some 40, true))⟩,
    ⟨(some 49), .indexAddr 43 (.tmp 47) (.tmp 48), (some (some 40, true))⟩,
    ⟨(some 50), .fieldAddr 100 (.tmp 49) 0, (some (some 40, true))⟩,
    ⟨(some 51), .load 3 (.tmp 50), (some (some 40, true))⟩,
    ⟨(some 52), .binOp .eql 3 (.tmp 46) (.tmp 51) 3, (some (some 40, true))⟩,
    ⟨(some 53), .pick (.tmp 40) (.tmp 52) (.const (.bool false)), none⟩,
    ⟨(some 54), .move (.tmp 53), none⟩,
    ⟨(some 55), .move (.tmp 0), (some (some 54, true))⟩,
    ⟨(some 56), .move (.tmp 3), (some (some 54, true))⟩,
    ⟨(some 57), .binOp .sub 3 (.tmp 56) (.const (.int .i64 1)) 3, (some (some 54, true))⟩,
    ⟨(some 58), .indexAddr 43 (.tmp 55) (.tmp 57), (some (some 54, true))⟩,
    ⟨(some 59), .fieldAddr 100 (.tmp 58) 1, (some (some 54, true))⟩,
    ⟨(some 60), .load 3 (.tmp 59), (some (some 54, true))⟩,
    ⟨(some 61), .move (.tmp 0), (some (some 54, true))⟩,
    ⟨(some 62), .move (.tmp 3), (some (some 54, true))⟩,
    ⟨(some 63), .indexAddr 43 (.tmp 61) (.tmp 62), (some (some 54, true))⟩,
    ⟨(some 64), .fieldAddr 100 (.tmp 63) 1, (some (some 54, true))⟩,
    ⟨(some 65), .load 3 (.tmp 64), (some (some 54, true))⟩,
    ⟨(some 66), .binOp .eql 3 (.tmp 60) (.tmp 65) 3, (some (some 54, true))⟩,
    ⟨(some 67), .pick (.tmp 54) (.tmp 66) (.const (.bool false)), none⟩,
    ⟨(some 68), .move (.tmp 67), none⟩,
    ⟨(some 69), .move (.tmp 0), (some (some 68, true))⟩,
    ⟨(some 70), .move (.tmp 3), (some (some 68, true))⟩,
    ⟨(some 71), .binOp .sub 3 (.tmp 70) (.const (.int .i64 1)) 3, (some (some 68, true))⟩,
    ⟨(some 72), .indexAddr 43 (.tmp 69) (.tmp 71), (some (some 68, true))⟩,
    ⟨(some 73), .fieldAddr 100 (.tmp 72) 3, (some (some 68, true))⟩,
    ⟨(some 74), .load 3 (.tmp 73), (some (some 68, true))⟩,
    ⟨(some 75), .move (.tmp 0), (some (some 68, true))⟩,
    ⟨(some 76), .move (.tmp 3), (some (some 68, true))⟩,
    ⟨(some 77), .indexAddr 43 (.tmp 75) (.tmp 76), (some (some 68, true))⟩,
    ⟨(some 78), .fieldAddr 100 (.tmp 77) 2, (some (some 68, true))⟩,
    ⟨(some 79), .load 3 (.tmp 78), (some (some 68, true))⟩,
    ⟨(some 80), .binOp .geq 3 (.tmp 74) (.tmp 79) 3, (some (some 68, true))⟩,
    ⟨(some 81), .pick (.tmp 68) (.tmp 80) (.const (.bool false)), none⟩] [0, 3, 81])
  (.cond (.tmp 81) (.seq (.reg [⟨(some 2), .assign (.const (.bool false)), none⟩] [2])
  .ret)
  .skip))))
  (.reg [⟨(some 12), .move (.tmp 3), none⟩,
    ⟨(some 13), .binOp .add 3 (.tmp 12) (.const (.int .i64 1)) 3, none⟩,
    ⟨(some 3), .assign (.tmp 13), none⟩] [0, 3])))
/-- loop.example/g01062/spec.l8Good: number 81, params [0] -/
def spec_l8Good_c : ACode := (.seq (.reg [⟨(some 2), .assign (.const (.bool false)), none⟩] [0])
  (.seq (.seq (.reg [⟨(some 3), .assign (.const (.int .i64 0)), none⟩] [0, 3])
  (.block 0 (.loop spec_l8Good_l0)))
  (.seq (.reg [⟨(some 82), .move (.tmp 0), none⟩,
    ⟨(some 83), .call ⟨.builtin .len, #[(.tmp 82)], #[43]⟩, none⟩,
    ⟨(some 84), .binOp .leq 3 (.tmp 83) (.const (.int .i64 16)) 3, none⟩,
    ⟨(some 2), .assign (.tmp 84), none⟩] [2])
  .ret)))
theorem spec_l8Good_k : fnOk Try.prog (fun _ => false) 81 = some (spec_l8Good_c.strip, 85, [.tmp 2]) := by kernel_rfl
/-- loop.example/g01062/laws.toRate: number 83, params [0] -/
def laws_toRate_c : ACode := (.seq (.reg [⟨(some 1), .box 102 (.tmp 0), none⟩,
    ⟨(some 2), .alloc 100, none⟩] [1, 2])
  (.seq (.reg [⟨(some 3), .alloc 100, none⟩] [1, 2, 3])
  (.seq (.reg [⟨(some 4), .fieldAddr 102 (.tmp 1) 0, none⟩,
    ⟨(some 5), .load 3 (.tmp 4), none⟩,
    ⟨(some 6), .fieldAddr 100 (.tmp 3) 0, none⟩,
    ⟨none, .store 3 (.tmp 6) (.tmp 5), none⟩] [1, 2, 3])
  (.seq (.reg [⟨(some 7), .fieldAddr 102 (.tmp 1) 1, none⟩,
    ⟨(some 8), .load 3 (.tmp 7), none⟩,
    ⟨(some 9), .fieldAddr 100 (.tmp 3) 1, none⟩,
    ⟨none, .store 3 (.tmp 9) (.tmp 8), none⟩] [1, 2, 3])
  (.seq (.reg [⟨(some 10), .fieldAddr 102 (.tmp 1) 2, none⟩,
    ⟨(some 11), .load 3 (.tmp 10), none⟩,
    ⟨(some 12), .fieldAddr 100 (.tmp 3) 2, none⟩,
    ⟨none, .store 3 (.tmp 12) (.tmp 11), none⟩] [1, 2, 3])
  (.seq (.reg [⟨(some 13), .fieldAddr 102 (.tmp 1) 3, none⟩,
    ⟨(some 14), .load 3 (.tmp 13), none⟩,
    ⟨(some 15), .fieldAddr 100 (.tmp 3) 3, none⟩,
    ⟨none, .store 3 (.tmp 15) (.tmp 14), none⟩] [1, 2, 3])
  (.seq (.reg [⟨(some 16), .fieldAddr 102 (.tmp 1) 4, none⟩,
    ⟨(some 17), .load 3 (.tmp 16), none⟩,
    ⟨(some 18), .fieldAddr 100 (.tmp 3) 4, none⟩,
    ⟨none, .store 3 (.tmp 18) (.tmp 17), none⟩] [2, 3])
  (.seq (.reg [⟨(some 19), .load 100 (.tmp 3), none⟩,
    ⟨none, .store 100 (.tmp 2) (.tmp 19), none⟩] [2])
  .ret))))))))
theorem laws_toRate_k : fnOk Try.prog (fun _ => false) 83 = some (laws_toRate_c.strip, 20, [.cell 2 100]) := by kernel_rfl
/-- head: [0, 7, 8, 9] -/
def impl_areRates_l0 : ACode := (.seq (.reg [⟨(some 10), .binOp .lss 3 (.tmp 9) (.tmp 8) 3, none⟩] [0, 7, 8, 9, 10])
  (.seq (.cond (.tmp 10) .skip
  (.exit 0))
  (.seq (.block 1 (.seq (.reg [⟨(some 11), .move (.tmp 9), none⟩,
    ⟨(some 12), .indexAddr 43 (.tmp 7) (.tmp 9), none⟩,
    ⟨(some 13), .load 100 (.tmp 12), none⟩,
    ⟨(some 4), .alloc 100, none⟩,
    ⟨(some 3), .assign (.tmp 11), none⟩,
    ⟨none, .store 100 (.tmp 4) (.tmp 13), none⟩] [0, 3, 4, 7, 8, 9])
  (.seq (.seq (.reg [⟨(some 14), .load 100 (.tmp 4), none⟩,
    ⟨(some 15), .call ⟨.value (.func 131), #[(.tmp 14)], #[100]⟩, none⟩,
    ⟨(some 16), .unOp .not 4 (.tmp 15), none⟩] [0, 3, 4, 7, 8, 9, 16])
  (.cond (.tmp 16) (.seq (.reg [⟨(some 2), .assign (.const (.bool false)), none⟩] [2])
  .ret)
  .skip))
  (.seq (.seq (.reg [⟨(some 17), .move (.tmp 3), none⟩,
    ⟨(some 18), .binOp .eql 3 (.tmp 17) (.const (.int .i64 0)) 3, none⟩] [0, 3, 4, 7, 8, 9, 18])
  (.cond (.tmp 18) (.exit 1)
  .skip))
  (.seq (.reg [⟨(some 19), .move (.tmp 0), none⟩,
    ⟨(some 20), .move (.tmp 3), none⟩,
    ⟨(some 21), .binOp .sub 3 (.tmp 20) (.const (.int .i64 1)) 3, none⟩,
    ⟨(some 22), .indexAddr 43 (.tmp 19) (.tmp 21), none⟩,
    ⟨(some 23), .load 100 (.tmp 22), none⟩,
    ⟨(some 5), .alloc 100, none⟩,
    ⟨none, .store 100 (.tmp 5) (.tmp 23), none⟩] [0, 4, 5, 7, 8, 9])
  (.seq (.regT [⟨(some 24), .fieldAddr 100 (.tmp 5) 0, none⟩,
    ⟨(some 25), .load 3 (.tmp 24), none⟩,
    ⟨(some 26), .fieldAddr 100 (.tmp 4) 0, none⟩,
    ⟨(some 27), .load 3 (.tmp 26), none⟩,
    ⟨(some 28), .call ⟨.value (.func 115), #[(.tmp 25), (.tmp 27)], #[3, 3]⟩, none⟩,
    ⟨(some 29), .fieldAddr 100 (.tmp 5) 1, none⟩,
    ⟨(some 30), .load 3 (.tmp 29), none⟩,
    ⟨(some 31), .fieldAddr 100 (.tmp 4) 1, none⟩,
    ⟨(some 32), .load 3 (.tmp 31), none⟩,
    ⟨(some 33), .call ⟨.value (.func 115), #[(.tmp 30), (.tmp 32)], #[3, 3]⟩, none⟩]
    [⟨(some 34), .buildSlice 26 2 #[(0, (.tmp 28)), (1, (.tmp 33))], none⟩,
    ⟨(some 35), .call ⟨.value (.func 114), #[(.tmp 34)], #[26]⟩, none⟩,
    ⟨(some 6), .assign (.tmp 35), none⟩] [0, 4, 5, 6, 7, 8, 9])
  (.seq (.reg [⟨(some 36), .move (.tmp 6), none⟩,
    ⟨(some 37), .binOp .gtr 3 (.tmp 36) (.const (.int .i64 0)) 3, none⟩,
    ⟨(some 38), .move (.tmp 37), none⟩,
    ⟨(some 39), .move (.tmp 6), (some (some 38, false))⟩,
    ⟨(some 40), .binOp .eql 3 (.tmp 39) (.const (.int .i64 0)) 3, (some (some 38, false))⟩,
    ⟨(some 41), .move (.tmp 40), (some (some 38, false))⟩,
    ⟨(some 42), .fieldAddr 100 (.tmp 5) 3, (some (some 41, true))⟩,
    ⟨(some 43), .load 3 (.tmp 42), (some (some 41, true))⟩,
    ⟨(some 44), .fieldAddr 100 (.tmp 4) 2, (some (some 41, true))⟩,
    ⟨(some 45), .load 3 (.tmp 44), (some (some 41, true))⟩,
    ⟨(some 46), .binOp .geq 3 (.tmp 43) (.tmp 45) 3, (some (some 41, true))⟩,
    ⟨(some 47), .pick (.tmp 41) (.tmp 46) (.const (.bool false)), (some (some 38, false))⟩,
    ⟨(some 48), .pick (.tmp 38) (.const (.bool true)) (.tmp 47), none⟩] [0, 7, 8, 9, 48])
  (.cond (.tmp 48) (.seq (.reg [⟨(some 2), .assign (.const (.bool false)), none⟩] [2])
  .ret)
  .skip))))))))
  (.reg [⟨(some 49), .binOp .add 3 (.tmp 9) (.const (.int .i64 1)) 3, none⟩,
    ⟨(some 9), .move (.tmp 49), none⟩] [0, 7, 8, 9]))))
/-- loop.example/g01062/impl.areRates: number 84, params [0] -/
def impl_areRates_c : ACode := (.seq (.reg [⟨(some 2), .assign (.const (.bool false)), none⟩] [0])
  (.seq (.seq (.reg [⟨(some 7), .move (.tmp 0), none⟩,
    ⟨(some 8), .call ⟨.builtin .len, #[(.tmp 7)], #[43]⟩, none⟩,
    ⟨(some 9), .move (.const (.int .i64 0)), none⟩] [0, 7, 8, 9])
  (.block 0 (.loop impl_areRates_l0)))
  (.seq (.reg [⟨(some 50), .move (.tmp 0), none⟩,
    ⟨(some 51), .call ⟨.builtin .len, #[(.tmp 50)], #[43]⟩, none⟩,
    ⟨(some 52), .binOp .leq 3 (.tmp 51) (.const (.int .i64 16)) 3, none⟩,
    ⟨(some 2), .assign (.tmp 52), none⟩] [2])
  .ret)))
theorem impl_areRates_k : fnOk Try.prog (fun _ => false) 84 = some (impl_areRates_c.strip, 53, [.tmp 2]) := by kernel_rfl
/-- loop.example/g01062/laws.eqRate: number 86, params [0, 1] -/
def laws_eqRate_c : ACode := (.seq (.reg [⟨(some 2), .box 100 (.tmp 0), none⟩,
    ⟨(some 3), .box 100 (.tmp 1), none⟩,
    ⟨(some 4), .assign (.const (.bool false)), none⟩] [2, 3])
  (.seq (.seq (.reg [⟨(some 5), .fieldAddr 100 (.tmp 2) 0, none⟩,
    ⟨(some 6), .load 3 (.tmp 5), none⟩,
    ⟨(some 7), .fieldAddr 100 (.tmp 3) 0, none⟩,
    ⟨(some 8), .load 3 (.tmp 7), none⟩,
    ⟨(some 9), .binOp .neq 3 (.tmp 6) (.tmp 8) 3, none⟩] [2, 3, 9])
  (.cond (.tmp 9) (.seq (.reg [⟨(some 4), .assign (.const (.bool false)), none⟩] [4])
  .ret)
  .skip))
  (.seq (.seq (.reg [⟨(some 10), .fieldAddr 100 (.tmp 2) 1, none⟩,
    ⟨(some 11), .load 3 (.tmp 10), none⟩,
    ⟨(some 12), .fieldAddr 100 (.tmp 3) 1, none⟩,
    ⟨(some 13), .load 3 (.tmp 12), none⟩,
    ⟨(some 14), .binOp .neq 3 (.tmp 11) (.tmp 13) 3, none⟩] [2, 3, 14])
  (.cond (.tmp 14) (.seq (.reg [⟨(some 4), .assign (.const (.bool false)), none⟩] [4])
  .ret)
  .skip))
  (.seq (.seq (.reg [⟨(some 15), .fieldAddr 100 (.tmp 2) 2, none⟩,
    ⟨(some 16), .load 3 (.tmp 15), none⟩,
    ⟨(some 17), .fieldAddr 100 (.tmp 3) 2, none⟩,
    ⟨(some 18), .load 3 (.tmp 17), none⟩,
    ⟨(some 19), .binOp .neq 3 (.tmp 16) (.tmp 18) 3, none⟩] [2, 3, 19])
  (.cond (.tmp 19) (.seq (.reg [⟨(some 4), .assign (.const (.bool false)), none⟩] [4])
  .ret)
  .skip))
  (.seq (.seq (.reg [⟨(some 20), .fieldAddr 100 (.tmp 2) 3, none⟩,
    ⟨(some 21), .load 3 (.tmp 20), none⟩,
    ⟨(some 22), .fieldAddr 100 (.tmp 3) 3, none⟩,
    ⟨(some 23), .load 3 (.tmp 22), none⟩,
    ⟨(some 24), .binOp .neq 3 (.tmp 21) (.tmp 23) 3, none⟩] [2, 3, 24])
  (.cond (.tmp 24) (.seq (.reg [⟨(some 4), .assign (.const (.bool false)), none⟩] [4])
  .ret)
  .skip))
  (.seq (.seq (.reg [⟨(some 25), .fieldAddr 100 (.tmp 2) 4, none⟩,
    ⟨(some 26), .load 3 (.tmp 25), none⟩,
    ⟨(some 27), .fieldAddr 100 (.tmp 3) 4, none⟩,
    ⟨(some 28), .load 3 (.tmp 27), none⟩,
    ⟨(some 29), .binOp .neq 3 (.tmp 26) (.tmp 28) 3, none⟩] [29])
  (.cond (.tmp 29) (.seq (.reg [⟨(some 4), .assign (.const (.bool false)), none⟩] [4])
  .ret)
  .skip))
  (.seq (.reg [⟨(some 4), .assign (.const (.bool true)), none⟩] [4])
  .ret)))))))
theorem laws_eqRate_k : fnOk Try.prog (fun _ => false) 86 = some (laws_eqRate_c.strip, 30, [.tmp 4]) := by kernel_rfl
/-- loop.example/g01062/impl.isCover: number 90, params [0] -/
def impl_isCover_c : ACode := (.seq (.reg [⟨(some 1), .box 51 (.tmp 0), none⟩,
    ⟨(some 2), .assign (.const (.bool false)), none⟩] [1])
  (.seq (.reg [⟨(some 3), .fieldAddr 51 (.tmp 1) 0, none⟩,
    ⟨(some 4), .load 3 (.tmp 3), none⟩,
    ⟨(some 5), .call ⟨.value (.func 101), #[(.tmp 4), (.const (.int .i64 1)), (.const (.int .i64 999))], #[3, 3, 3]⟩, none⟩,
    ⟨(some 6), .move (.tmp 5), none⟩,
    ⟨(some 7), .fieldAddr 51 (.tmp 1) 1, (some (some 6, true))⟩,
    ⟨(some 8), .load 3 (.tmp 7), (some (some 6, true))⟩,
    ⟨(some 9), .call ⟨.value (.func 135), #[(.tmp 8)], #[3]⟩, (some (some 6, true))⟩,
    ⟨(some 10), .pick (.tmp 6) (.tmp 9) (.const (.bool false)), none⟩,
    ⟨(some 11), .move (.tmp 10), none⟩,
    ⟨(some 12), .fieldAddr 51 (.tmp 1) 2, (some (some 11, true))⟩,
    ⟨(some 13), .load 3 (.tmp 12), (some (some 11, true))⟩,
    ⟨(some 14), .call ⟨.value (.func 136), #[(.tmp 13)], #[3]⟩, (some (some 11, true))⟩,
    ⟨(some 15), .pick (.tmp 11) (.tmp 14) (.const (.bool false)), none⟩,
    ⟨(some 16), .move (.tmp 15), none⟩,
    ⟨(some 17), .fieldAddr 51 (.tmp 1) 3, (some (some 16, true))⟩,
    ⟨(some 18), .load 3 (.tmp 17), (some (some 16, true))⟩,
    ⟨(some 19), .call ⟨.value (.func 137), #[(.tmp 18)], #[3]⟩, (some (some 16, true))⟩,
    ⟨(some 20), .pick (.tmp 16) (.tmp 19) (.const (.bool false)), none⟩,
    ⟨(some 21), .move (.tmp 20), none⟩,
    ⟨(some 22), .fieldAddr 51 (.tmp 1) 4, (some (some 21, true))⟩,
    ⟨(some 23), .load 3 (.tmp 22), (some (some 21, true))⟩,
    ⟨(some 24), .call ⟨.value (.func 138), #[(.tmp 23)], #[3]⟩, (some (some 21, true))⟩,
    ⟨(some 25), .pick (.tmp 21) (.tmp 24) (.const (.bool false)), none⟩,
    ⟨(some 26), .move (.tmp 25), none⟩,
    ⟨(some 27), .fieldAddr 51 (.tmp 1) 5, (some (some 26, true))⟩,
    ⟨(some 28), .load 3 (.tmp 27), (some (some 26, true))⟩,
    ⟨(some 29), .call ⟨.value (.func 75), #[(.tmp 28)], #[3]⟩, (some (some 26, true))⟩,
    ⟨(some 30), .pick (.tmp 26) (.tmp 29) (.const (.bool false)), none⟩,
    ⟨(some 31), .move (.tmp 30), none⟩,
    ⟨(some 32), .fieldAddr 51 (.tmp 1) 6, (some (some 31, true))⟩,
    ⟨(some 33), .load 3 (.tmp 32), (some (some 31, true))⟩,
    ⟨(some 34), .call ⟨.value (.func 75), #[(.tmp 33)], #[3]⟩, (some (some 31, true))⟩,
    ⟨(some 35), .pick (.tmp 31) (.tmp 34) (.const (.bool false)), none⟩,
    ⟨(some 36), .move (.tmp 35), none⟩,
    ⟨(some 37), .fieldAddr 51 (.tmp 1) 5, (some (some 36, true))⟩,
    ⟨(some 38), .load 3 (.tmp 37), (some (some 36, true))⟩,
    ⟨(some 39), .fieldAddr 51 (.tmp 1) 6, (some (some 36, true))⟩,
    ⟨(some 40), .load 3 (.tmp 39), (some (some 36, true))⟩,
    ⟨(some 41), .binOp .neq 3 (.tmp 38) (.tmp 40) 3, (some (some 36, true))⟩,
    ⟨(some 42), .pick (.tmp 36) (.tmp 41) (.const (.bool false)), none⟩,
    ⟨(some 43), .move (.tmp 42), none⟩,
    ⟨(some 44), .fieldAddr 51 (.tmp 1) 7, (some (some 43, true))⟩,
    ⟨(some 45), .load 3 (.tmp 44), (some (some 43, true))⟩,
    ⟨(some 46), .fieldAddr 51 (.tmp 1) 8, (some (some 43, true))⟩,
    ⟨(some 47), .load 3 (.tmp 46), (some (some 43, true))⟩,
    ⟨(some 48), .call ⟨.value (.func 101), #[(.tmp 45), (.const (.int .i64 0)), (.tmp 47)], #[3, 3, 3]⟩, (some (some 43, true))⟩,
    ⟨(some 49), .pick (.tmp 43) (.tmp 48) (.const (.bool false)), none⟩,
    ⟨(some 50), .move (.tmp 49), none⟩,
    ⟨(some 51), .fieldAddr 51 (.tmp 1) 8, (some (some 50, true))⟩,
    ⟨(some 52), .load 3 (.tmp 51), (some (some 50, true))⟩,
    ⟨(some 53), .call ⟨.value (.func 95), #[(.tmp 52)], #[3]⟩, (some (some 50, true))⟩,
    ⟨(some 54), .pick (.tmp 50) (.tmp 53) (.const (.bool false)), none⟩,
    ⟨(some 2), .assign (.tmp 54), none⟩] [2])
  .ret))
theorem impl_isCover_k : fnOk Try.prog (fun _ => false) 90 = some (impl_isCover_c.strip, 55, [.tmp 2]) := by kernel_rfl
/-- loop.example/g01062/spec.l10One: number 91, params [0] -/
def spec_l10One_c : ACode := (.seq (.reg [⟨(some 1), .box 51 (.tmp 0), none⟩,
    ⟨(some 2), .assign (.const (.bool false)), none⟩] [1])
  (.seq (.seq (.reg [⟨(some 3), .fieldAddr 51 (.tmp 1) 0, none⟩,
    ⟨(some 4), .load 3 (.tmp 3), none⟩,
    ⟨(some 5), .call ⟨.value (.func 102), #[(.tmp 4), (.const (.int .i64 1)), (.const (.int .i64 999))], #[3, 3, 3]⟩, none⟩,
    ⟨(some 6), .unOp .not 4 (.tmp 5), none⟩,
    ⟨(some 7), .move (.tmp 6), none⟩,
    ⟨(some 8), .fieldAddr 51 (.tmp 1) 1, (some (some 7, false))⟩,
    ⟨(some 9), .load 3 (.tmp 8), (some (some 7, false))⟩,
    ⟨(some 10), .call ⟨.value (.func 139), #[(.tmp 9)], #[3]⟩, (some (some 7, false))⟩,
    ⟨(some 11), .unOp .not 4 (.tmp 10), (some (some 7, false))⟩,
    ⟨(some 12), .pick (.tmp 7) (.const (.bool true)) (.tmp 11), none⟩,
    ⟨(some 13), .move (.tmp 12), none⟩,
    ⟨(some 14), .fieldAddr 51 (.tmp 1) 2, (some (some 13, false))⟩,
    ⟨(some 15), .load 3 (.tmp 14), (some (some 13, false))⟩,
    ⟨(some 16), .call ⟨.value (.func 140), #[(.tmp 15)], #[3]⟩, (some (some 13, false))⟩,
    ⟨(some 17), .unOp .not 4 (.tmp 16), (some (some 13, false))⟩,
    ⟨(some 18), .pick (.tmp 13) (.const (.bool true)) (.tmp 17), none⟩,
    ⟨(some 19), .move (.tmp 18), none⟩,
    ⟨(some 20), .fieldAddr 51 (.tmp 1) 3, (some (some 19, false))⟩,
    ⟨(some 21), .load 3 (.tmp 20), (some (some 19, false))⟩,
    ⟨(some 22), .call ⟨.value (.func 141), #[(.tmp 21)], #[3]⟩, (some (some 19, false))⟩,
    ⟨(some 23), .unOp .not 4 (.tmp 22), (some (some 19, false))⟩,
    ⟨(some 24), .pick (.tmp 19) (.const (.bool true)) (.tmp 23), none⟩,
    ⟨(some 25), .move (.tmp 24), none⟩,
    ⟨(some 26), .fieldAddr 51 (.tmp 1) 4, (some (some 25, false))⟩,
    ⟨(some 27), .load 3 (.tmp 26), (some (some 25, false))⟩,
    ⟨(some 28), .call ⟨.value (.func 142), #[(.tmp 27)], #[3]⟩, (some (some 25, false))⟩,
    ⟨(some 29), .unOp .not 4 (.tmp 28), (some (some 25, false))⟩,
    ⟨(some 30), .pick (.tmp 25) (.const (.bool true)) (.tmp 29), none⟩] [1, 30])
  (.cond (.tmp 30) (.seq (.reg [⟨(some 2), .assign (.const (.bool false)), none⟩] [2])
  .ret)
  .skip))
  (.seq (.reg [⟨(some 31), .fieldAddr 51 (.tmp 1) 5, none⟩,
    ⟨(some 32), .load 3 (.tmp 31), none⟩,
    ⟨(some 33), .call ⟨.value (.func 69), #[(.tmp 32)], #[3]⟩, none⟩,
    ⟨(some 34), .move (.tmp 33), none⟩,
    ⟨(some 35), .fieldAddr 51 (.tmp 1) 6, (some (some 34, true))⟩,
    ⟨(some 36), .load 3 (.tmp 35), (some (some 34, true))⟩,
    ⟨(some 37), .call ⟨.value (.func 69), #[(.tmp 36)], #[3]⟩, (some (some 34, true))⟩,
    ⟨(some 38), .pick (.tmp 34) (.tmp 37) (.const (.bool false)), none⟩,
    ⟨(some 39), .move (.tmp 38), none⟩,
    ⟨(some 40), .fieldAddr 51 (.tmp 1) 5, (some (some 39, true))⟩,
    ⟨(some 41), .load 3 (.tmp 40), (some (some 39, true))⟩,
    ⟨(some 42), .fieldAddr 51 (.tmp 1) 6, (some (some 39, true))⟩,
    ⟨(some 43), .load 3 (.tmp 42), (some (some 39, true))⟩,
    ⟨(some 44), .binOp .neq 3 (.tmp 41) (.tmp 43) 3, (some (some 39, true))⟩,
    ⟨(some 45), .pick (.tmp 39) (.tmp 44) (.const (.bool false)), none⟩,
    ⟨(some 46), .move (.tmp 45), none⟩,
    ⟨(some 47), .fieldAddr 51 (.tmp 1) 8, (some (some 46, true))⟩,
    ⟨(some 48), .load 3 (.tmp 47), (some (some 46, true))⟩,
    ⟨(some 49), .call ⟨.value (.func 143), #[(.tmp 48)], #[3]⟩, (some (some 46, true))⟩,
    ⟨(some 50), .pick (.tmp 46) (.tmp 49) (.const (.bool false)), none⟩,
    ⟨(some 51), .move (.tmp 50), none⟩,
    ⟨(some 52), .fieldAddr 51 (.tmp 1) 7, (some (some 51, true))⟩,
    ⟨(some 53), .load 3 (.tmp 52), (some (some 51, true))⟩,
    ⟨(some 54), .fieldAddr 51 (.tmp 1) 8, (some (some 51, true))⟩,
    ⟨(some 55), .load 3 (.tmp 54), (some (some 51, true))⟩,
    ⟨(some 56), .call ⟨.value (.func 102), #[(.tmp 53), (.const (.int .i64 0)), (.tmp 55)], #[3, 3, 3]⟩, (some (some 51, true))⟩,
    ⟨(some 57), .pick (.tmp 51) (.tmp 56) (.const (.bool false)), none⟩,
    ⟨(some 2), .assign (.tmp 57), none⟩] [2])
  .ret)))
theorem spec_l10One_k : fnOk Try.prog (fun _ => false) 91 = some (spec_l10One_c.strip, 58, [.tmp 2]) := by kernel_rfl
/-- head: [1, 2, 3, 12, 13, 14] -/
def impl_rateFor_l0 : ACode := (.seq (.reg [⟨(some 15), .binOp .lss 3 (.tmp 14) (.tmp 13) 3, none⟩] [1, 2, 3, 12, 13, 14, 15])
  (.seq (.cond (.tmp 15) .skip
  (.exit 0))
  (.seq (.block 1 (.seq (.reg [⟨(some 16), .indexAddr 43 (.tmp 12) (.tmp 14), none⟩,
    ⟨(some 17), .load 100 (.tmp 16), none⟩,
    ⟨(some 11), .alloc 100, none⟩,
    ⟨none, .store 100 (.tmp 11) (.tmp 17), none⟩] [1, 2, 3, 11, 12, 13, 14])
  (.seq (.reg [⟨(some 18), .fieldAddr 100 (.tmp 11) 0, none⟩,
    ⟨(some 19), .load 3 (.tmp 18), none⟩,
    ⟨(some 20), .move (.tmp 2), none⟩,
    ⟨(some 21), .binOp .eql 3 (.tmp 19) (.tmp 20) 3, none⟩,
    ⟨(some 22), .move (.tmp 21), none⟩,
    ⟨(some 23), .fieldAddr 100 (.tmp 11) 1, (some (some 22, true))⟩,
    ⟨(some 24), .load 3 (.tmp 23), (some (some 22, true))⟩,
    ⟨(some 25), .move (.tmp 3), (some (some 22, true))⟩,
    ⟨(some 26), .binOp .geq 3 (.tmp 24) (.tmp 25) 3, (some (some 22, true))⟩,
    ⟨(some 27), .pick (.tmp 22) (.tmp 26) (.const (.bool false)), none⟩,
    ⟨(some 28), .move (.tmp 27), none⟩,
    ⟨(some 29), .move (.tmp 1), (some (some 28, true))⟩,
    ⟨(some 30), .fieldAddr 100 (.tmp 11) 2, (some (some 28, true))⟩,
    ⟨(some 31), .load 3 (.tmp 30), (some (some 28, true))⟩,
    ⟨(some 32), .fieldAddr 100 (.tmp 11) 3, (some (some 28, true))⟩,
    ⟨(some 33), .load 3 (.tmp 32), (some (some 28, true))⟩,
    ⟨(some 34), .call ⟨.value (.func 101), #[(.tmp 29), (.tmp 31), (.tmp 33)], #[3, 3, 3]⟩, (some (some 28, true))⟩,
    ⟨(some 35), .pick (.tmp 28) (.tmp 34) (.const (.bool false)), none⟩] [1, 2, 3, 11, 12, 13, 14, 35])
  (.cond (.tmp 35) (.seq (.reg [⟨(some 36), .fieldAddr 100 (.tmp 11) 4, none⟩,
    ⟨(some 37), .load 3 (.tmp 36), none⟩,
    ⟨(some 8), .assign (.tmp 37), none⟩,
    ⟨(some 9), .assign (.const (.bool true)), none⟩] [8, 9])
  .ret)
  .skip))))
  (.reg [⟨(some 38), .binOp .add 3 (.tmp 14) (.const (.int .i64 1)) 3, none⟩,
    ⟨(some 14), .move (.tmp 38), none⟩] [1, 2, 3, 12, 13, 14]))))
/-- loop.example/g01062/impl.rateFor: number 92, params [0, 1, 2, 3] -/
def impl_rateFor_c : ACode := (.seq (.reg [⟨(some 8), .assign (.const (.int .i64 0)), none⟩,
    ⟨(some 9), .assign (.const (.bool false)), none⟩] [0, 1, 2, 3])
  (.seq (.seq (.reg [⟨(some 12), .move (.tmp 0), none⟩,
    ⟨(some 13), .call ⟨.builtin .len, #[(.tmp 12)], #[43]⟩, none⟩,
    ⟨(some 14), .move (.const (.int .i64 0)), none⟩] [1, 2, 3, 12, 13, 14])
  (.block 0 (.loop impl_rateFor_l0)))
  (.seq (.reg [⟨(some 8), .assign (.const (.int .i64 0)), none⟩,
    ⟨(some 9), .assign (.const (.bool false)), none⟩] [8, 9])
  .ret)))
theorem impl_rateFor_k : fnOk Try.prog (fun _ => false) 92 = some (impl_rateFor_c.strip, 39, [.tmp 8, .tmp 9]) := by kernel_rfl
/-- head: [0, 1, 2, 3, 9] -/
def spec_l8For_l0 : ACode := (.seq (.seq (.reg [⟨(some 11), .move (.tmp 9), none⟩,
    ⟨(some 12), .move (.tmp 0), none⟩,
    ⟨(some 13), .call ⟨.builtin .len, #[(.tmp 12)], #[43]⟩, none⟩,
    ⟨(some 14), .binOp .lss 3 (.tmp 11) (.tmp 13) 3, none⟩] [0, 1, 2, 3, 9, 14])
  (.cond (.tmp 14) .skip
  (.exit 0)))
  (.seq (.block 1 (.seq (.reg [⟨(some 17), .move (.tmp 0), none⟩,
    ⟨(some 18), .move (.tmp 9), none⟩,
    ⟨(some 19), .indexAddr 43 (.tmp 17) (.tmp 18), none⟩,
    ⟨(some 20), .load 100 (.tmp 19), none⟩,
    ⟨(some 10), .alloc 100, none⟩,
    ⟨none, .store 100 (.tmp 10) (.tmp 20), none⟩] [0, 1, 2, 3, 9, 10])
  (.seq (.reg [⟨(some 21), .fieldAddr 100 (.tmp 10) 0, none⟩,
    ⟨(some 22), .load 3 (.tmp 21), none⟩,
    ⟨(some 23), .move (.tmp 2), none⟩,
    ⟨(some 24), .binOp .eql 3 (.tmp 22) (.tmp 23) 3, none⟩,
    ⟨(some 25), .move (.tmp 24), none⟩,
    ⟨(some 26), .fieldAddr 100 (.tmp 10) 1, (some (some 25, true))⟩,
    ⟨(some 27), .load 3 (.tmp 26), (some (some 25, true))⟩,
    ⟨(some 28), .move (.tmp 3), (some (some 25, true))⟩,
    ⟨(some 29), .binOp .geq 3 (.tmp 27) (.tmp 28) 3, (some (some 25, true))⟩,
    ⟨(some 30), .pick (.tmp 25) (.tmp 29) (.const (.bool false)), none⟩,
    ⟨(some 31), .move (.tmp 30), none⟩,
    ⟨(some 32), .move (.tmp 1), (some (some 31, true))⟩,
    ⟨(some 33), .fieldAddr 100 (.tmp 10) 2, (some (some 31, true))⟩,
    ⟨(some 34), .load 3 (.tmp 33), (some (some 31, true))⟩,
    ⟨(some 35), .fieldAddr 100 (.tmp 10) 3, (some (some 31, true))⟩,
    ⟨(some 36), .load 3 (.tmp 35), (some (some 31, true))⟩,
    ⟨(some 37), .call ⟨.value (.func 102), #[(.tmp 32), (.tmp 34), (.tmp 36)], #[3, 3, 3]⟩, (some (some 31, true))⟩,
    ⟨(some 38), .pick (.tmp 31) (.tmp 37) (.const (.bool false)), none⟩] [0, 1, 2, 3, 9, 10, 38])
  (.cond (.tmp 38) (.seq (.reg [⟨(some 39), .fieldAddr 100 (.tmp 10) 4, none⟩,
    ⟨(some 40), .load 3 (.tmp 39), none⟩,
    ⟨(some 8), .assign (.tmp 40), none⟩] [8])
  .ret)
  .skip))))
  (.reg [⟨(some 15), .move (.tmp 9), none⟩,
    ⟨(some 16), .binOp .add 3 (.tmp 15) (.const (.int .i64 1)) 3, none⟩,
    ⟨(some 9), .assign (.tmp 16), none⟩] [0, 1, 2, 3, 9])))
/-- loop.example/g01062/spec.l8For: number 93, params [0, 1, 2, 3] -/
def spec_l8For_c : ACode := (.seq (.reg [⟨(some 8), .assign (.const (.int .i64 0)), none⟩] [0, 1, 2, 3])
  (.seq (.seq (.reg [⟨(some 9), .assign (.const (.int .i64 0)), none⟩] [0, 1, 2, 3, 9])
  (.block 0 (.loop spec_l8For_l0)))
  (.seq (.reg [⟨(some 8), .assign (.const (.int .i64 0)), none⟩] [8])
  .ret)))
theorem spec_l8For_k : fnOk Try.prog (fun _ => false) 93 = some (spec_l8For_c.strip, 41, [.tmp 8]) := by kernel_rfl
/-- loop.example/g01062/spec.l1Most: number 94, params [0, 1] -/
def spec_l1Most_c : ACode := (.seq (.reg [⟨(some 4), .assign (.const (.int .i64 0)), none⟩] [0, 1])
  (.seq (.seq (.reg [⟨(some 5), .move (.tmp 0), none⟩,
    ⟨(some 6), .move (.tmp 1), none⟩,
    ⟨(some 7), .binOp .gtr 3 (.tmp 5) (.tmp 6) 3, none⟩] [0, 1, 7])
  (.cond (.tmp 7) (.seq (.reg [⟨(some 8), .move (.tmp 0), none⟩,
    ⟨(some 4), .assign (.tmp 8), none⟩] [4])
  .ret)
  .skip))
  (.seq (.reg [⟨(some 9), .move (.tmp 1), none⟩,
    ⟨(some 4), .assign (.tmp 9), none⟩] [4])
  .ret)))
theorem spec_l1Most_k : fnOk Try.prog (fun _ => false) 94 = some (spec_l1Most_c.strip, 10, [.tmp 4]) := by kernel_rfl
/-- loop.example/g01062/impl.isMinute: number 95, params [0] -/
def impl_isMinute_c : ACode := (.seq (.reg [⟨(some 2), .assign (.const (.bool false)), none⟩] [0])
  (.seq (.reg [⟨(some 3), .move (.tmp 0), none⟩,
    ⟨(some 4), .call ⟨.value (.func 101), #[(.tmp 3), (.const (.int .i64 0)), (.const (.int .i64 9999))], #[3, 3, 3]⟩, none⟩,
    ⟨(some 2), .assign (.tmp 4), none⟩] [2])
  .ret))
theorem impl_isMinute_k : fnOk Try.prog (fun _ => false) 95 = some (impl_isMinute_c.strip, 5, [.tmp 2]) := by kernel_rfl
/-- loop.example/g01062/impl.inRange: number 101, params [0, 1, 2] -/
def impl_inRange_c : ACode := (.seq (.reg [⟨(some 6), .assign (.const (.bool false)), none⟩] [0, 1, 2])
  (.seq (.reg [⟨(some 7), .move (.tmp 0), none⟩,
    ⟨(some 8), .move (.tmp 1), none⟩,
    ⟨(some 9), .binOp .geq 3 (.tmp 7) (.tmp 8) 3, none⟩,
    ⟨(some 10), .move (.tmp 9), none⟩,
    ⟨(some 11), .move (.tmp 0), (some (some 10, true))⟩,
    ⟨(some 12), .move (.tmp 2), (some (some 10, true))⟩,
    ⟨(some 13), .binOp .leq 3 (.tmp 11) (.tmp 12) 3, (some (some 10, true))⟩,
    ⟨(some 14), .pick (.tmp 10) (.tmp 13) (.const (.bool false)), none⟩,
    ⟨(some 6), .assign (.tmp 14), none⟩] [6])
  .ret))
theorem impl_inRange_k : fnOk Try.prog (fun _ => false) 101 = some (impl_inRange_c.strip, 15, [.tmp 6]) := by kernel_rfl
/-- loop.example/g01062/spec.l1In: number 102, params [0, 1, 2] -/
def spec_l1In_c : ACode := (.seq (.reg [⟨(some 6), .assign (.const (.bool false)), none⟩] [0, 1, 2])
  (.seq (.reg [⟨(some 7), .move (.tmp 0), none⟩,
    ⟨(some 8), .move (.tmp 1), none⟩,
    ⟨(some 9), .binOp .geq 3 (.tmp 7) (.tmp 8) 3, none⟩,
    ⟨(some 10), .move (.tmp 9), none⟩,
    ⟨(some 11), .move (.tmp 0), (some (some 10, true))⟩,
    ⟨(some 12), .move (.tmp 2), (some (some 10, true))⟩,
    ⟨(some 13), .binOp .leq 3 (.tmp 11) (.tmp 12) 3, (some (some 10, true))⟩,
    ⟨(some 14), .pick (.tmp 10) (.tmp 13) (.const (.bool false)), none⟩,
    ⟨(some 6), .assign (.tmp 14), none⟩] [6])
  .ret))
theorem spec_l1In_k : fnOk Try.prog (fun _ => false) 102 = some (spec_l1In_c.strip, 15, [.tmp 6]) := by kernel_rfl
/-- head: [0, 3, 5, 9] -/
def impl_possibleChanges_l0 : ACode := (.seq (.reg [⟨(some 10), .binOp .lss 3 (.tmp 9) (.const (.int .i64 16)) 3, none⟩] [0, 3, 5, 9, 10])
  (.seq (.cond (.tmp 10) .skip
  (.exit 0))
  (.seq (.block 1 (.seq (.reg [⟨(some 11), .move (.tmp 9), none⟩,
    ⟨(some 6), .assign (.tmp 11), none⟩] [0, 3, 5, 6, 9])
  (.seq (.reg [⟨(some 13), .move (.tmp 0), none⟩,
    ⟨(some 14), .load 51 (.tmp 3), none⟩,
    ⟨(some 15), .move (.tmp 6), none⟩,
    ⟨(some 16), .call ⟨.value (.func 107), #[(.tmp 13), (.tmp 14), (.tmp 15)], #[43, 51, 3]⟩, none⟩,
    ⟨(some 12), .move (.tmp 16), none⟩,
    ⟨(some 17), .extract (.tmp 12) 0, none⟩,
    ⟨(some 18), .extract (.tmp 12) 1, none⟩,
    ⟨(some 7), .alloc 51, none⟩,
    ⟨none, .store 51 (.tmp 7) (.tmp 17), none⟩,
    ⟨(some 8), .assign (.tmp 18), none⟩] [0, 3, 5, 6, 8, 9])
  (.seq (.reg [⟨(some 19), .move (.tmp 8), none⟩] [0, 3, 5, 6, 9, 19])
  (.cond (.tmp 19) (.reg [⟨(some 20), .move (.tmp 5), none⟩,
    ⟨(some 21), .move (.tmp 6), none⟩,
    ⟨(some 22), .buildSlice 26 1 #[(0, (.tmp 21))], none⟩,
    ⟨(some 23), .call ⟨.builtin .append, #[(.tmp 20), (.tmp 22)], #[26, 26]⟩, none⟩,
    ⟨(some 5), .assign (.tmp 23), none⟩] [0, 3, 5, 9])
  .skip)))))
  (.reg [⟨(some 24), .binOp .add 3 (.tmp 9) (.const (.int .i64 1)) 3, none⟩,
    ⟨(some 9), .move (.tmp 24), none⟩] [0, 3, 5, 9]))))
/-- loop.example/g01062/impl.possibleChanges: number 104, params [0, 1] -/
def impl_possibleChanges_c : ACode := (.seq (.reg [⟨(some 3), .box 51 (.tmp 1), none⟩,
    ⟨(some 4), .assign (.const (.slice none 0 0)), none⟩] [0, 3])
  (.seq (.reg [⟨(some 5), .assign (.const (.slice none 0 0)), none⟩] [0, 3, 5])
  (.seq (.seq (.reg [⟨(some 9), .move (.const (.int .i64 0)), none⟩] [0, 3, 5, 9])
  (.block 0 (.loop impl_possibleChanges_l0)))
  (.seq (.reg [⟨(some 25), .move (.tmp 5), none⟩,
    ⟨(some 4), .assign (.tmp 25), none⟩] [4])
  .ret))))
theorem impl_possibleChanges_k : fnOk Try.prog (fun _ => false) 104 = some (impl_possibleChanges_c.strip, 26, [.tmp 4]) := by kernel_rfl
/-- head: [0, 1, 5, 6] -/
def slices_MinFunc___int_int__l0 : ACode := (.seq (.seq (.reg [⟨(some 14), .move (.tmp 6), none⟩,
    ⟨(some 15), .move (.tmp 0), none⟩,
    ⟨(some 16), .call ⟨.builtin .len, #[(.tmp 15)], #[26]⟩, none⟩,
    ⟨(some 17), .binOp .lss 3 (.tmp 14) (.tmp 16) 3, none⟩] [0, 1, 5, 6, 17])
  (.cond (.tmp 17) .skip
  (.exit 0)))
  (.seq (.block 1 (.seq (.reg [⟨(some 20), .move (.tmp 1), none⟩,
    ⟨(some 21), .move (.tmp 0), none⟩,
    ⟨(some 22), .move (.tmp 6), none⟩,
    ⟨(some 23), .indexAddr 26 (.tmp 21) (.tmp 22), none⟩,
    ⟨(some 24), .load 3 (.tmp 23), none⟩,
    ⟨(some 25), .move (.tmp 5), none⟩,
    ⟨(some 26), .call ⟨.value (.tmp 20), #[(.tmp 24), (.tmp 25)], #[3, 3]⟩, none⟩,
    ⟨(some 27), .binOp .lss 3 (.tmp 26) (.const (.int .i64 0)) 3, none⟩] [0, 1, 5, 6, 27])
  (.cond (.tmp 27) (.reg [⟨(some 28), .move (.tmp 0), none⟩,
    ⟨(some 29), .move (.tmp 6), none⟩,
    ⟨(some 30), .indexAddr 26 (.tmp 28) (.tmp 29), none⟩,
    ⟨(some 31), .load 3 (.tmp 30), none⟩,
    ⟨(some 5), .assign (.tmp 31), none⟩] [0, 1, 5, 6])
  .skip)))
  (.reg [⟨(some 18), .move (.tmp 6), none⟩,
    ⟨(some 19), .binOp .add 3 (.tmp 18) (.const (.int .i64 1)) 3, none⟩,
    ⟨(some 6), .assign (.tmp 19), none⟩] [0, 1, 5, 6])))
/-- slices.MinFunc[[]int,int]: number 105, params [0, 1] -/
def slices_MinFunc___int_int__c : ACode := (.seq (.reg [⟨(some 4), .assign (.const (.int .i64 0)), none⟩] [0, 1])
  (.seq (.seq (.reg [⟨(some 7), .move (.tmp 0), none⟩,
    ⟨(some 8), .call ⟨.builtin .len, #[(.tmp 7)], #[26]⟩, none⟩,
    ⟨(some 9), .binOp .lss 3 (.tmp 8) (.const (.int .i64 1)) 3, none⟩] [0, 1, 9])
  (.cond (.tmp 9) (.reg [⟨(some 10), .makeInterface 9 (.const (.string ⟨#[115, 108, 105, 99, 101, 115, 46, 77, 105, 110, 70, 117, 110, 99, 58, 32, 101, 109, 112, 116, 121, 32, 108, 105, 115, 116]⟩)), none⟩,
    ⟨none, .panic (.tmp 10), none⟩] [0, 1])
  .skip))
  (.seq (.reg [⟨(some 11), .move (.tmp 0), none⟩,
    ⟨(some 12), .indexAddr 26 (.tmp 11) (.const (.int .i64 0)), none⟩,
    ⟨(some 13), .load 3 (.tmp 12), none⟩,
    ⟨(some 5), .assign (.tmp 13), none⟩] [0, 1, 5])
  (.seq (.seq (.reg [⟨(some 6), .assign (.const (.int .i64 1)), none⟩] [0, 1, 5, 6])
  (.block 0 (.loop slices_MinFunc___int_int__l0)))
  (.seq (.reg [⟨(some 32), .move (.tmp 5), none⟩,
    ⟨(some 4), .assign (.tmp 32), none⟩] [4])
  .ret)))))
theorem slices_MinFunc___int_int__k : fnOk Try.prog (fun _ => false) 105 = some (slices_MinFunc___int_int__c.strip, 33, [.tmp 4]) := by kernel_rfl
/-- loop.example/g01062/impl.compareChanges: number 106, params [0, 1] -/
def impl_compareChanges_c : ACode := (.seq (.reg [⟨(some 4), .assign (.const (.int .i64 0)), none⟩] [0, 1])
  (.seq (.reg [⟨(some 5), .move (.tmp 0), none⟩,
    ⟨(some 6), .convert 3 142 (.tmp 5), none⟩,
    ⟨(some 7), .call ⟨.value (.func 146), #[(.tmp 6)], #[142]⟩, none⟩,
    ⟨(some 8), .move (.tmp 1), none⟩,
    ⟨(some 9), .convert 3 142 (.tmp 8), none⟩,
    ⟨(some 10), .call ⟨.value (.func 146), #[(.tmp 9)], #[142]⟩, none⟩,
    ⟨(some 11), .call ⟨.value (.func 115), #[(.tmp 7), (.tmp 10)], #[3, 3]⟩, none⟩,
    ⟨(some 12), .move (.tmp 0), none⟩,
    ⟨(some 13), .move (.tmp 1), none⟩,
    ⟨(some 14), .call ⟨.value (.func 115), #[(.tmp 12), (.tmp 13)], #[3, 3]⟩, none⟩,
    ⟨(some 15), .buildSlice 26 2 #[(0, (.tmp 11)), (1, (.tmp 14))], none⟩,
    ⟨(some 16), .call ⟨.value (.func 114), #[(.tmp 15)], #[26]⟩, none⟩,
    ⟨(some 4), .assign (.tmp 16), none⟩] [4])
  .ret))
theorem impl_compareChanges_k : fnOk Try.prog (fun _ => false) 106 = some (impl_compareChanges_c.strip, 17, [.tmp 4]) := by kernel_rfl
/-- head: [0, 2, 4, 6, 8, 9, 28, 29, 30] -/
def impl_makeCover_l0 : ACode := (.seq (.reg [⟨(some 31), .binOp .lss 3 (.tmp 30) (.tmp 29) 3, none⟩] [0, 2, 4, 6, 8, 9, 28, 29, 30, 31])
  (.seq (.cond (.tmp 31) .skip
  (.exit 0))
  (.seq (.block 1 (.seq (.reg [⟨(some 32), .indexAddr 43 (.tmp 28) (.tmp 30), none⟩,
    ⟨(some 33), .load 100 (.tmp 32), none⟩,
    ⟨(some 11), .alloc 100, none⟩,
    ⟨none, .store 100 (.tmp 11) (.tmp 33), none⟩] [0, 2, 4, 6, 8, 9, 11, 28, 29, 30])
  (.seq (.reg [⟨(some 34), .move (.tmp 8), none⟩,
    ⟨(some 35), .fieldAddr 100 (.tmp 11) 2, none⟩,
    ⟨(some 36), .load 3 (.tmp 35), none⟩,
    ⟨(some 37), .buildSlice 26 1 #[(0, (.tmp 36))], none⟩,
    ⟨(some 38), .call ⟨.builtin .append, #[(.tmp 34), (.tmp 37)], #[26, 26]⟩, none⟩,
    ⟨(some 8), .assign (.tmp 38), none⟩] [0, 2, 4, 6, 8, 9, 11, 28, 29, 30])
  (.seq (.reg [⟨(some 39), .fieldAddr 100 (.tmp 11) 3, none⟩,
    ⟨(some 40), .load 3 (.tmp 39), none⟩,
    ⟨(some 41), .binOp .add 3 (.tmp 40) (.const (.int .i64 1)) 3, none⟩,
    ⟨(some 42), .call ⟨.value (.func 135), #[(.tmp 41)], #[3]⟩, none⟩] [0, 2, 4, 6, 8, 9, 11, 28, 29, 30, 42])
  (.cond (.tmp 42) (.reg [⟨(some 43), .move (.tmp 8), none⟩,
    ⟨(some 44), .fieldAddr 100 (.tmp 11) 3, none⟩,
    ⟨(some 45), .load 3 (.tmp 44), none⟩,
    ⟨(some 46), .binOp .add 3 (.tmp 45) (.const (.int .i64 1)) 3, none⟩,
    ⟨(some 47), .buildSlice 26 1 #[(0, (.tmp 46))], none⟩,
    ⟨(some 48), .call ⟨.builtin .append, #[(.tmp 43), (.tmp 47)], #[26, 26]⟩, none⟩,
    ⟨(some 8), .assign (.tmp 48), none⟩] [0, 2, 4, 6, 8, 9, 28, 29, 30])
  .skip)))))
  (.reg [⟨(some 49), .binOp .add 3 (.tmp 30) (.const (.int .i64 1)) 3, none⟩,
    ⟨(some 30), .move (.tmp 49), none⟩] [0, 2, 4, 6, 8, 9, 28, 29, 30]))))
/-- head: [0, 2, 4, 6, 9, 13, 56, 57, 58, 62, 63, 64] -/
def impl_makeCover_l1 : ACode := (.seq (.reg [⟨(some 65), .binOp .lss 3 (.tmp 64) (.tmp 63) 3, none⟩] [0, 2, 4, 6, 9, 13, 56, 57, 58, 62, 63, 64, 65])
  (.seq (.cond (.tmp 65) .skip
  (.exit 4))
  (.seq (.block 5 (.seq (.reg [⟨(some 66), .indexAddr 26 (.tmp 62) (.tmp 64), none⟩,
    ⟨(some 67), .load 3 (.tmp 66), none⟩,
    ⟨(some 15), .assign (.tmp 67), none⟩] [0, 2, 4, 6, 9, 13, 15, 56, 57, 58, 62, 63, 64])
  (.seq (.reg [⟨(some 68), .move (.tmp 13), none⟩,
    ⟨(some 69), .move (.tmp 15), none⟩,
    ⟨(some 70), .fieldAddr 51 (.tmp 4) 1, none⟩,
    ⟨none, .store 3 (.tmp 70) (.tmp 68), none⟩,
    ⟨(some 71), .fieldAddr 51 (.tmp 4) 2, none⟩,
    ⟨none, .store 3 (.tmp 71) (.tmp 69), none⟩] [0, 2, 4, 6, 9, 13, 56, 57, 58, 62, 63, 64])
  (.seq (.reg [⟨(some 73), .move (.tmp 0), none⟩,
    ⟨(some 74), .load 51 (.tmp 4), none⟩,
    ⟨(some 75), .move (.tmp 2), none⟩,
    ⟨(some 76), .call ⟨.value (.func 148), #[(.tmp 73), (.tmp 74), (.tmp 75)], #[43, 51, 3]⟩, none⟩,
    ⟨(some 72), .move (.tmp 76), none⟩,
    ⟨(some 77), .extract (.tmp 72) 0, none⟩,
    ⟨(some 78), .extract (.tmp 72) 1, none⟩,
    ⟨(some 16), .alloc 51, none⟩,
    ⟨none, .store 51 (.tmp 16) (.tmp 77), none⟩,
    ⟨(some 17), .assign (.tmp 78), none⟩] [0, 2, 4, 6, 9, 13, 16, 17, 56, 57, 58, 62, 63, 64])
  (.seq (.reg [⟨(some 79), .move (.tmp 17), none⟩] [0, 2, 4, 6, 9, 13, 16, 56, 57, 58, 62, 63, 64, 79])
  (.cond (.tmp 79) (.seq (.reg [⟨(some 80), .load 51 (.tmp 16), none⟩,
    ⟨none, .store 51 (.tmp 6) (.tmp 80), none⟩,
    ⟨(some 7), .assign (.const (.bool true)), none⟩] [6, 7])
  .ret)
  .skip))))))
  (.reg [⟨(some 81), .binOp .add 3 (.tmp 64) (.const (.int .i64 1)) 3, none⟩,
    ⟨(some 64), .move (.tmp 81), none⟩] [0, 2, 4, 6, 9, 13, 56, 57, 58, 62, 63, 64]))))
/-- head: [0, 2, 4, 6, 9, 56, 57, 58] -/
def impl_makeCover_l2 : ACode := (.seq (.reg [⟨(some 59), .binOp .lss 3 (.tmp 58) (.tmp 57) 3, none⟩] [0, 2, 4, 6, 9, 56, 57, 58, 59])
  (.seq (.cond (.tmp 59) .skip
  (.exit 2))
  (.seq (.block 3 (.seq (.reg [⟨(some 60), .indexAddr 26 (.tmp 56) (.tmp 58), none⟩,
    ⟨(some 61), .load 3 (.tmp 60), none⟩,
    ⟨(some 13), .assign (.tmp 61), none⟩] [0, 2, 4, 6, 9, 13, 56, 57, 58])
  (.seq (.reg [⟨(some 62), .move (.tmp 9), none⟩,
    ⟨(some 63), .call ⟨.builtin .len, #[(.tmp 62)], #[26]⟩, none⟩,
    ⟨(some 64), .move (.const (.int .i64 0)), none⟩] [0, 2, 4, 6, 9, 13, 56, 57, 58, 62, 63, 64])
  (.block 4 (.loop impl_makeCover_l1)))))
  (.reg [⟨(some 82), .binOp .add 3 (.tmp 58) (.const (.int .i64 1)) 3, none⟩,
    ⟨(some 58), .move (.tmp 82), none⟩] [0, 2, 4, 6, 9, 56, 57, 58]))))
/-- loop.example/g01062/impl.makeCover: number 107, params [0, 1, 2] -/
def impl_makeCover_c : ACode := (.seq (.reg [⟨(some 4), .box 51 (.tmp 1), none⟩,
    ⟨(some 6), .alloc 51, none⟩,
    ⟨(some 7), .assign (.const (.bool false)), none⟩] [0, 2, 4, 6])
  (.seq (.regF [⟨(some 18), .fieldAddr 51 (.tmp 4) 1, none⟩,
    ⟨(some 21), .fieldAddr 51 (.tmp 4) 2, none⟩]
    [19, 20, 22, 23] [.load 3 (.tmp 18), .load 3 (.tmp 21)] [] []
    [⟨(some 19), .load 3 (.tmp 18), none⟩,
    ⟨(some 20), .buildSlice 26 1 #[(0, (.tmp 19))], none⟩,
    ⟨(some 8), .assign (.tmp 20), none⟩,
    ⟨(some 22), .load 3 (.tmp 21), none⟩,
    ⟨(some 23), .buildSlice 26 1 #[(0, (.tmp 22))], none⟩,
    ⟨(some 9), .assign (.tmp 23), none⟩] [0, 2, 4, 6, 8, 9])
  (.seq (.seq (.reg [⟨(some 24), .move (.tmp 2), none⟩,
    ⟨(some 25), .binOp .and 3 (.tmp 24) (.const (.int .i64 1)) 3, none⟩,
    ⟨(some 26), .binOp .neq 3 (.tmp 25) (.const (.int .i64 0)) 3, none⟩] [0, 2, 4, 6, 8, 9, 26])
  (.cond (.tmp 26) (.seq (.reg [⟨(some 27), .buildSlice 26 1 #[(0, (.const (.int .i64 0)))], none⟩,
    ⟨(some 8), .assign (.tmp 27), none⟩] [0, 2, 4, 6, 8, 9])
  (.seq (.seq (.reg [⟨(some 28), .move (.tmp 0), none⟩,
    ⟨(some 29), .call ⟨.builtin .len, #[(.tmp 28)], #[43]⟩, none⟩,
    ⟨(some 30), .move (.const (.int .i64 0)), none⟩] [0, 2, 4, 6, 8, 9, 28, 29, 30])
  (.block 0 (.loop impl_makeCover_l0)))
  (.reg [⟨(some 50), .move (.tmp 8), none⟩,
    ⟨(some 51), .call ⟨.value (.func 147), #[(.tmp 50)], #[26]⟩, none⟩] [0, 2, 4, 6, 8, 9])))
  .skip))
  (.seq (.seq (.reg [⟨(some 52), .move (.tmp 2), none⟩,
    ⟨(some 53), .binOp .and 3 (.tmp 52) (.const (.int .i64 2)) 3, none⟩,
    ⟨(some 54), .binOp .neq 3 (.tmp 53) (.const (.int .i64 0)) 3, none⟩] [0, 2, 4, 6, 8, 9, 54])
  (.cond (.tmp 54) (.reg [⟨(some 55), .buildSlice 26 10 #[(0, (.const (.int .i64 0))), (1, (.const (.int .i64 1))), (2, (.const (.int .i64 2))), (3, (.const (.int .i64 3))), (4, (.const (.int .i64 4))), (5, (.const (.int .i64 5))), (6, (.const (.int .i64 6))), (7, (.const (.int .i64 7))), (8, (.const (.int .i64 8))), (9, (.const (.int .i64 9)))], none⟩,
    ⟨(some 9), .assign (.tmp 55), none⟩] [0, 2, 4, 6, 8, 9])
  .skip))
  (.seq (.seq (.reg [⟨(some 56), .move (.tmp 8), none⟩,
    ⟨(some 57), .call ⟨.builtin .len, #[(.tmp 56)], #[26]⟩, none⟩,
    ⟨(some 58), .move (.const (.int .i64 0)), none⟩] [0, 2, 4, 6, 9, 56, 57, 58])
  (.block 2 (.loop impl_makeCover_l2)))
  (.seq (.reg [⟨(some 83), .build 51 #[], none⟩,
    ⟨none, .store 51 (.tmp 6) (.tmp 83), none⟩,
    ⟨(some 7), .assign (.const (.bool false)), none⟩] [6, 7])
  .ret))))))
theorem impl_makeCover_k : fnOk Try.prog (fun _ => false) 107 = some (impl_makeCover_c.strip, 84, [.cell 6 51, .tmp 7]) := by kernel_rfl
/-- head: [5, 8, 9, 10] -/
def spec_l12Best_l0 : ACode := (.seq (.seq (.reg [⟨(some 22), .move (.tmp 10), none⟩,
    ⟨(some 23), .move (.tmp 8), none⟩,
    ⟨(some 24), .call ⟨.builtin .len, #[(.tmp 23)], #[26]⟩, none⟩,
    ⟨(some 25), .binOp .lss 3 (.tmp 22) (.tmp 24) 3, none⟩] [5, 8, 9, 10, 25])
  (.cond (.tmp 25) .skip
  (.exit 0)))
  (.seq (.block 1 (.seq (.regQ [⟨(some 28), .move (.tmp 8), none⟩,
    ⟨(some 29), .move (.tmp 10), none⟩,
    ⟨(some 30), .indexAddr 26 (.tmp 28) (.tmp 29), none⟩,
    ⟨(some 31), .load 3 (.tmp 30), none⟩,
    ⟨(some 32), .load 76 (.tmp 5), none⟩,
    ⟨(some 33), .call ⟨.value (.func 118), #[(.tmp 31), (.tmp 32)], #[3, 76]⟩, none⟩,
    ⟨(some 34), .move (.tmp 9), none⟩,
    ⟨(some 35), .load 76 (.tmp 5), none⟩,
    ⟨(some 36), .call ⟨.value (.func 118), #[(.tmp 34), (.tmp 35)], #[3, 76]⟩, none⟩,
    ⟨(some 11), .assign (.tmp 33), none⟩,
    ⟨(some 12), .assign (.tmp 36), none⟩] [5, 8, 9, 10, 11, 12])
  (.seq (.reg [⟨(some 37), .move (.tmp 11), none⟩,
    ⟨(some 38), .move (.tmp 12), none⟩,
    ⟨(some 39), .binOp .lss 3 (.tmp 37) (.tmp 38) 3, none⟩,
    ⟨(some 40), .move (.tmp 39), none⟩,
    ⟨(some 41), .move (.tmp 11), (some (some 40, false))⟩,
    ⟨(some 42), .move (.tmp 12), (some (some 40, false))⟩,
    ⟨(some 43), .binOp .eql 3 (.tmp 41) (.tmp 42) 3, (some (some 40, false))⟩,
    ⟨(some 44), .move (.tmp 43), (some (some 40, false))⟩,
    ⟨(some 45), .move (.tmp 8), (some (some 44, true))⟩,
    ⟨(some 46), .move (.tmp 10), (some (some 44, true))⟩,
    ⟨(some 47), .indexAddr 26 (.tmp 45) (.tmp 46), (some (some 44, true))⟩,
    ⟨(some 48), .load 3 (.tmp 47), (some (some 44, true))⟩,
    ⟨(some 49), .move (.tmp 9), (some (some 44, true))⟩,
    ⟨(some 50), .call ⟨.value (.func 149), #[(.tmp 48), (.tmp 49)], #[3, 3]⟩, (some (some 44, true))⟩,
    ⟨(some 51), .pick (.tmp 44) (.tmp 50) (.const (.bool false)), (some (some 40, false))⟩,
    ⟨(some 52), .pick (.tmp 40) (.const (.bool true)) (.tmp 51), none⟩] [5, 8, 9, 10, 52])
  (.cond (.tmp 52) (.reg [⟨(some 53), .move (.tmp 8), none⟩,
    ⟨(some 54), .move (.tmp 10), none⟩,
    ⟨(some 55), .indexAddr 26 (.tmp 53) (.tmp 54), none⟩,
    ⟨(some 56), .load 3 (.tmp 55), none⟩,
    ⟨(some 9), .assign (.tmp 56), none⟩] [5, 8, 9, 10])
  .skip))))
  (.reg [⟨(some 26), .move (.tmp 10), none⟩,
    ⟨(some 27), .binOp .add 3 (.tmp 26) (.const (.int .i64 1)) 3, none⟩,
    ⟨(some 10), .assign (.tmp 27), none⟩] [5, 8, 9, 10])))
/-- loop.example/g01062/spec.l12Best: number 108, params [0, 1, 2] -/
def spec_l12Best_c : ACode := (.seq (.reg [⟨(some 4), .box 51 (.tmp 1), none⟩,
    ⟨(some 5), .box 76 (.tmp 2), none⟩,
    ⟨(some 6), .assign (.const (.int .i64 0)), none⟩,
    ⟨(some 7), .assign (.const (.bool false)), none⟩] [0, 4, 5])
  (.seq (.reg [⟨(some 13), .move (.tmp 0), none⟩,
    ⟨(some 14), .load 51 (.tmp 4), none⟩,
    ⟨(some 15), .call ⟨.value (.func 110), #[(.tmp 13), (.tmp 14)], #[43, 51]⟩, none⟩,
    ⟨(some 8), .assign (.tmp 15), none⟩] [5, 8])
  (.seq (.seq (.reg [⟨(some 16), .move (.tmp 8), none⟩,
    ⟨(some 17), .call ⟨.builtin .len, #[(.tmp 16)], #[26]⟩, none⟩,
    ⟨(some 18), .binOp .eql 3 (.tmp 17) (.const (.int .i64 0)) 3, none⟩] [5, 8, 18])
  (.cond (.tmp 18) (.seq (.reg [⟨(some 6), .assign (.const (.int .i64 0)), none⟩,
    ⟨(some 7), .assign (.const (.bool false)), none⟩] [6, 7])
  .ret)
  .skip))
  (.seq (.reg [⟨(some 19), .move (.tmp 8), none⟩,
    ⟨(some 20), .indexAddr 26 (.tmp 19) (.const (.int .i64 0)), none⟩,
    ⟨(some 21), .load 3 (.tmp 20), none⟩,
    ⟨(some 9), .assign (.tmp 21), none⟩] [5, 8, 9])
  (.seq (.seq (.reg [⟨(some 10), .assign (.const (.int .i64 1)), none⟩] [5, 8, 9, 10])
  (.block 0 (.loop spec_l12Best_l0)))
  (.seq (.reg [⟨(some 57), .move (.tmp 9), none⟩,
    ⟨(some 6), .assign (.tmp 57), none⟩,
    ⟨(some 7), .assign (.const (.bool true)), none⟩] [6, 7])
  .ret))))))
theorem spec_l12Best_k : fnOk Try.prog (fun _ => false) 108 = some (spec_l12Best_c.strip, 58, [.tmp 6, .tmp 7]) := by kernel_rfl
/-- head: [0, 2, 4, 6, 8, 9, 10, 11, 12, 13] -/
def spec_l12Make_l0 : ACode := (.seq (.seq (.reg [⟨(some 44), .move (.tmp 13), none⟩,
    ⟨(some 45), .move (.tmp 10), none⟩,
    ⟨(some 46), .call ⟨.builtin .len, #[(.tmp 45)], #[26]⟩, none⟩,
    ⟨(some 47), .binOp .lss 3 (.tmp 44) (.tmp 46) 3, none⟩] [0, 2, 4, 6, 8, 9, 10, 11, 12, 13, 47])
  (.cond (.tmp 47) .skip
  (.exit 4)))
  (.seq (.block 5 (.seq (.reg [⟨(some 50), .load 51 (.tmp 4), none⟩,
    ⟨(some 14), .alloc 51, none⟩,
    ⟨none, .store 51 (.tmp 14) (.tmp 50), none⟩] [0, 2, 4, 6, 8, 9, 10, 11, 12, 13, 14])
  (.seq (.reg [⟨(some 51), .move (.tmp 8), none⟩,
    ⟨(some 52), .move (.tmp 11), none⟩,
    ⟨(some 53), .indexAddr 26 (.tmp 51) (.tmp 52), none⟩,
    ⟨(some 54), .load 3 (.tmp 53), none⟩,
    ⟨(some 55), .fieldAddr 51 (.tmp 14) 1, none⟩,
    ⟨none, .store 3 (.tmp 55) (.tmp 54), none⟩] [0, 2, 4, 6, 8, 9, 10, 11, 12, 13, 14])
  (.seq (.reg [⟨(some 56), .move (.tmp 9), none⟩,
    ⟨(some 57), .move (.tmp 12), none⟩,
    ⟨(some 58), .indexAddr 26 (.tmp 56) (.tmp 57), none⟩,
    ⟨(some 59), .load 3 (.tmp 58), none⟩,
    ⟨(some 60), .fieldAddr 51 (.tmp 14) 2, none⟩,
    ⟨none, .store 3 (.tmp 60) (.tmp 59), none⟩] [0, 2, 4, 6, 8, 9, 10, 11, 12, 13, 14])
  (.seq (.reg [⟨(some 61), .move (.tmp 10), none⟩,
    ⟨(some 62), .move (.tmp 13), none⟩,
    ⟨(some 63), .indexAddr 26 (.tmp 61) (.tmp 62), none⟩,
    ⟨(some 64), .load 3 (.tmp 63), none⟩,
    ⟨(some 65), .fieldAddr 51 (.tmp 14) 3, none⟩,
    ⟨none, .store 3 (.tmp 65) (.tmp 64), none⟩] [0, 2, 4, 6, 8, 9, 10, 11, 12, 13, 14])
  (.seq (.seq (.reg [⟨(some 66), .move (.tmp 2), none⟩,
    ⟨(some 67), .call ⟨.value (.func 116), #[(.tmp 66), (.const (.int .i64 8))], #[3, 3]⟩, none⟩] [0, 2, 4, 6, 8, 9, 10, 11, 12, 13, 14, 67])
  (.cond (.tmp 67) (.reg [⟨(some 68), .move (.tmp 0), none⟩,
    ⟨(some 69), .fieldAddr 51 (.tmp 14) 1, none⟩,
    ⟨(some 70), .load 3 (.tmp 69), none⟩,
    ⟨(some 71), .fieldAddr 51 (.tmp 14) 2, none⟩,
    ⟨(some 72), .load 3 (.tmp 71), none⟩,
    ⟨(some 73), .fieldAddr 51 (.tmp 14) 3, none⟩,
    ⟨(some 74), .load 3 (.tmp 73), none⟩,
    ⟨(some 75), .call ⟨.value (.func 93), #[(.tmp 68), (.tmp 70), (.tmp 72), (.tmp 74)], #[43, 3, 3, 3]⟩, none⟩,
    ⟨(some 76), .fieldAddr 51 (.tmp 14) 4, none⟩,
    ⟨none, .store 3 (.tmp 76) (.tmp 75), none⟩] [0, 2, 4, 6, 8, 9, 10, 11, 12, 13, 14])
  .skip))
  (.seq (.reg [⟨(some 77), .fieldAddr 51 (.tmp 14) 4, none⟩,
    ⟨(some 78), .load 3 (.tmp 77), none⟩,
    ⟨(some 79), .binOp .gtr 3 (.tmp 78) (.const (.int .i64 0)) 3, none⟩,
    ⟨(some 80), .move (.tmp 79), none⟩,
    ⟨(some 81), .move (.tmp 0), (some (some 80, true))⟩,
    ⟨(some 82), .load 51 (.tmp 14), (some (some 80, true))⟩,
    ⟨(some 83), .call ⟨.value (.func 111), #[(.tmp 81), (.tmp 82)], #[43, 51]⟩, (some (some 80, true))⟩,
    ⟨(some 84), .pick (.tmp 80) (.tmp 83) (.const (.bool false)), none⟩] [0, 2, 4, 6, 8, 9, 10, 11, 12, 13, 14, 84])
  (.cond (.tmp 84) (.seq (.reg [⟨(some 85), .load 51 (.tmp 14), none⟩,
    ⟨none, .store 51 (.tmp 6) (.tmp 85), none⟩,
    ⟨(some 7), .assign (.const (.bool true)), none⟩] [6, 7])
  .ret)
  .skip))))))))
  (.reg [⟨(some 48), .move (.tmp 13), none⟩,
    ⟨(some 49), .binOp .add 3 (.tmp 48) (.const (.int .i64 1)) 3, none⟩,
    ⟨(some 13), .assign (.tmp 49), none⟩] [0, 2, 4, 6, 8, 9, 10, 11, 12, 13])))
/-- head: [0, 2, 4, 6, 8, 9, 10, 11, 12] -/
def spec_l12Make_l1 : ACode := (.seq (.seq (.reg [⟨(some 38), .move (.tmp 12), none⟩,
    ⟨(some 39), .move (.tmp 9), none⟩,
    ⟨(some 40), .call ⟨.builtin .len, #[(.tmp 39)], #[26]⟩, none⟩,
    ⟨(some 41), .binOp .lss 3 (.tmp 38) (.tmp 40) 3, none⟩] [0, 2, 4, 6, 8, 9, 10, 11, 12, 41])
  (.cond (.tmp 41) .skip
  (.exit 2)))
  (.seq (.block 3 (.seq (.reg [⟨(some 13), .assign (.const (.int .i64 0)), none⟩] [0, 2, 4, 6, 8, 9, 10, 11, 12, 13])
  (.block 4 (.loop spec_l12Make_l0))))
  (.reg [⟨(some 42), .move (.tmp 12), none⟩,
    ⟨(some 43), .binOp .add 3 (.tmp 42) (.const (.int .i64 1)) 3, none⟩,
    ⟨(some 12), .assign (.tmp 43), none⟩] [0, 2, 4, 6, 8, 9, 10, 11, 12])))
/-- head: [0, 2, 4, 6, 8, 9, 10, 11] -/
def spec_l12Make_l2 : ACode := (.seq (.seq (.reg [⟨(some 32), .move (.tmp 11), none⟩,
    ⟨(some 33), .move (.tmp 8), none⟩,
    ⟨(some 34), .call ⟨.builtin .len, #[(.tmp 33)], #[26]⟩, none⟩,
    ⟨(some 35), .binOp .lss 3 (.tmp 32) (.tmp 34) 3, none⟩] [0, 2, 4, 6, 8, 9, 10, 11, 35])
  (.cond (.tmp 35) .skip
  (.exit 0)))
  (.seq (.block 1 (.seq (.reg [⟨(some 12), .assign (.const (.int .i64 0)), none⟩] [0, 2, 4, 6, 8, 9, 10, 11, 12])
  (.block 2 (.loop spec_l12Make_l1))))
  (.reg [⟨(some 36), .move (.tmp 11), none⟩,
    ⟨(some 37), .binOp .add 3 (.tmp 36) (.const (.int .i64 1)) 3, none⟩,
    ⟨(some 11), .assign (.tmp 37), none⟩] [0, 2, 4, 6, 8, 9, 10, 11])))
/-- loop.example/g01062/spec.l12Make: number 109, params [0, 1, 2] -/
def spec_l12Make_c : ACode := (.seq (.reg [⟨(some 4), .box 51 (.tmp 1), none⟩,
    ⟨(some 6), .alloc 51, none⟩,
    ⟨(some 7), .assign (.const (.bool false)), none⟩] [0, 2, 4, 6])
  (.seq (.regF [⟨(some 16), .fieldAddr 51 (.tmp 4) 1, none⟩]
    [18, 15, 17] [.load 3 (.tmp 16)] [] []
    [⟨(some 18), .move (.tmp 2), none⟩,
    ⟨(some 19), .call ⟨.value (.func 116), #[(.tmp 18), (.const (.int .i64 1))], #[3, 3]⟩, none⟩,
    ⟨(some 15), .move (.tmp 0), none⟩,
    ⟨(some 17), .load 3 (.tmp 16), none⟩,
    ⟨(some 20), .call ⟨.value (.func 150), #[(.tmp 15), (.tmp 17), (.tmp 19)], #[43, 3, 4]⟩, none⟩,
    ⟨(some 8), .assign (.tmp 20), none⟩] [0, 2, 4, 6, 8])
  (.seq (.regF [⟨(some 21), .fieldAddr 51 (.tmp 4) 2, none⟩]
    [23, 22] [.load 3 (.tmp 21)] [] []
    [⟨(some 23), .move (.tmp 2), none⟩,
    ⟨(some 24), .call ⟨.value (.func 116), #[(.tmp 23), (.const (.int .i64 2))], #[3, 3]⟩, none⟩,
    ⟨(some 22), .load 3 (.tmp 21), none⟩,
    ⟨(some 25), .call ⟨.value (.func 151), #[(.tmp 22), (.tmp 24)], #[3, 4]⟩, none⟩,
    ⟨(some 9), .assign (.tmp 25), none⟩] [0, 2, 4, 6, 8, 9])
  (.seq (.regF [⟨(some 27), .fieldAddr 51 (.tmp 4) 3, none⟩]
    [29, 26, 28] [.load 3 (.tmp 27)] [] []
    [⟨(some 29), .move (.tmp 2), none⟩,
    ⟨(some 30), .call ⟨.value (.func 116), #[(.tmp 29), (.const (.int .i64 4))], #[3, 3]⟩, none⟩,
    ⟨(some 26), .move (.tmp 0), none⟩,
    ⟨(some 28), .load 3 (.tmp 27), none⟩,
    ⟨(some 31), .call ⟨.value (.func 152), #[(.tmp 26), (.tmp 28), (.tmp 30)], #[43, 3, 4]⟩, none⟩,
    ⟨(some 10), .assign (.tmp 31), none⟩] [0, 2, 4, 6, 8, 9, 10])
  (.seq (.seq (.reg [⟨(some 11), .assign (.const (.int .i64 0)), none⟩] [0, 2, 4, 6, 8, 9, 10, 11])
  (.block 0 (.loop spec_l12Make_l2)))
  (.seq (.reg [⟨(some 86), .build 51 #[], none⟩,
    ⟨none, .store 51 (.tmp 6) (.tmp 86), none⟩,
    ⟨(some 7), .assign (.const (.bool false)), none⟩] [6, 7])
  .ret))))))
theorem spec_l12Make_k : fnOk Try.prog (fun i => i == 1 || i == 2 || i == 3) 109 = some (spec_l12Make_c.strip, 87, [.cell 6 51, .tmp 7]) := by kernel_rfl
/-- head: [0, 3, 5, 6] -/
def spec_l12All_l0 : ACode := (.seq (.seq (.reg [⟨(some 10), .move (.tmp 6), none⟩,
    ⟨(some 11), .binOp .lss 3 (.tmp 10) (.const (.int .i64 16)) 3, none⟩] [0, 3, 5, 6, 11])
  (.cond (.tmp 11) .skip
  (.exit 0)))
  (.seq (.block 1 (.seq (.reg [⟨(some 15), .move (.tmp 0), none⟩,
    ⟨(some 16), .load 51 (.tmp 3), none⟩,
    ⟨(some 17), .move (.tmp 6), none⟩,
    ⟨(some 18), .call ⟨.value (.func 109), #[(.tmp 15), (.tmp 16), (.tmp 17)], #[43, 51, 3]⟩, none⟩,
    ⟨(some 14), .move (.tmp 18), none⟩,
    ⟨(some 19), .extract (.tmp 14) 0, none⟩,
    ⟨(some 20), .extract (.tmp 14) 1, none⟩,
    ⟨(some 7), .alloc 51, none⟩,
    ⟨none, .store 51 (.tmp 7) (.tmp 19), none⟩,
    ⟨(some 8), .assign (.tmp 20), none⟩] [0, 3, 5, 6, 8])
  (.seq (.reg [⟨(some 21), .move (.tmp 8), none⟩] [0, 3, 5, 6, 21])
  (.cond (.tmp 21) (.reg [⟨(some 22), .move (.tmp 5), none⟩,
    ⟨(some 23), .move (.tmp 6), none⟩,
    ⟨(some 24), .buildSlice 26 1 #[(0, (.tmp 23))], none⟩,
    ⟨(some 25), .call ⟨.builtin .append, #[(.tmp 22), (.tmp 24)], #[26, 26]⟩, none⟩,
    ⟨(some 5), .assign (.tmp 25), none⟩] [0, 3, 5, 6])
  .skip))))
  (.reg [⟨(some 12), .move (.tmp 6), none⟩,
    ⟨(some 13), .binOp .add 3 (.tmp 12) (.const (.int .i64 1)) 3, none⟩,
    ⟨(some 6), .assign (.tmp 13), none⟩] [0, 3, 5, 6])))
/-- loop.example/g01062/spec.l12All: number 110, params [0, 1] -/
def spec_l12All_c : ACode := (.seq (.reg [⟨(some 3), .box 51 (.tmp 1), none⟩,
    ⟨(some 4), .assign (.const (.slice none 0 0)), none⟩] [0, 3])
  (.seq (.reg [⟨(some 9), .buildSlice 26 0 #[], none⟩,
    ⟨(some 5), .assign (.tmp 9), none⟩] [0, 3, 5])
  (.seq (.seq (.reg [⟨(some 6), .assign (.const (.int .i64 0)), none⟩] [0, 3, 5, 6])
  (.block 0 (.loop spec_l12All_l0)))
  (.seq (.reg [⟨(some 26), .move (.tmp 5), none⟩,
    ⟨(some 4), .assign (.tmp 26), none⟩] [4])
  .ret))))
theorem spec_l12All_k : fnOk Try.prog (fun _ => false) 110 = some (spec_l12All_c.strip, 27, [.tmp 4]) := by kernel_rfl
/-- loop.example/g01062/spec.l12Explained: number 111, params [0, 1] -/
def spec_l12Explained_c : ACode := (.seq (.reg [⟨(some 3), .box 51 (.tmp 1), none⟩,
    ⟨(some 4), .assign (.const (.bool false)), none⟩] [0, 3])
  (.seq (.regQ [⟨(some 5), .move (.tmp 0), none⟩,
    ⟨(some 6), .fieldAddr 51 (.tmp 3) 1, none⟩,
    ⟨(some 7), .load 3 (.tmp 6), none⟩,
    ⟨(some 8), .fieldAddr 51 (.tmp 3) 2, none⟩,
    ⟨(some 9), .load 3 (.tmp 8), none⟩,
    ⟨(some 10), .fieldAddr 51 (.tmp 3) 3, none⟩,
    ⟨(some 11), .load 3 (.tmp 10), none⟩,
    ⟨(some 12), .call ⟨.value (.func 93), #[(.tmp 5), (.tmp 7), (.tmp 9), (.tmp 11)], #[43, 3, 3, 3]⟩, none⟩,
    ⟨(some 13), .fieldAddr 51 (.tmp 3) 4, none⟩,
    ⟨(some 14), .load 3 (.tmp 13), none⟩,
    ⟨(some 15), .binOp .eql 3 (.tmp 12) (.tmp 14) 3, none⟩,
    ⟨(some 4), .assign (.tmp 15), none⟩] [4])
  .ret))
theorem spec_l12Explained_k : fnOk Try.prog (fun _ => false) 111 = some (spec_l12Explained_c.strip, 16, [.tmp 4]) := by kernel_rfl
/-- head: [0, 3, 4] -/
def slices_Min___int_int__l0 : ACode := (.seq (.seq (.reg [⟨(some 12), .move (.tmp 4), none⟩,
    ⟨(some 13), .move (.tmp 0), none⟩,
    ⟨(some 14), .call ⟨.builtin .len, #[(.tmp 13)], #[26]⟩, none⟩,
    ⟨(some 15), .binOp .lss 3 (.tmp 12) (.tmp 14) 3, none⟩] [0, 3, 4, 15])
  (.cond (.tmp 15) .skip
  (.exit 0)))
  (.seq (.block 1 (.reg [⟨(some 18), .move (.tmp 3), none⟩,
    ⟨(some 19), .move (.tmp 0), none⟩,
    ⟨(some 20), .move (.tmp 4), none⟩,
    ⟨(some 21), .indexAddr 26 (.tmp 19) (.tmp 20), none⟩,
    ⟨(some 22), .load 3 (.tmp 21), none⟩,
    ⟨(some 23), .call ⟨.builtin .min, #[(.tmp 18), (.tmp 22)], #[3, 3]⟩, none⟩,
    ⟨(some 3), .assign (.tmp 23), none⟩] [0, 3, 4]))
  (.reg [⟨(some 16), .move (.tmp 4), none⟩,
    ⟨(some 17), .binOp .add 3 (.tmp 16) (.const (.int .i64 1)) 3, none⟩,
    ⟨(some 4), .assign (.tmp 17), none⟩] [0, 3, 4])))
/-- slices.Min[[]int,int]: number 112, params [0] -/
def slices_Min___int_int__c : ACode := (.seq (.reg [⟨(some 2), .assign (.const (.int .i64 0)), none⟩] [0])
  (.seq (.seq (.reg [⟨(some 5), .move (.tmp 0), none⟩,
    ⟨(some 6), .call ⟨.builtin .len, #[(.tmp 5)], #[26]⟩, none⟩,
    ⟨(some 7), .binOp .lss 3 (.tmp 6) (.const (.int .i64 1)) 3, none⟩] [0, 7])
  (.cond (.tmp 7) (.reg [⟨(some 8), .makeInterface 9 (.const (.string ⟨#[115, 108, 105, 99, 101, 115, 46, 77, 105, 110, 58, 32, 101, 109, 112, 116, 121, 32, 108, 105, 115, 116]⟩)), none⟩,
    ⟨none, .panic (.tmp 8), none⟩] [0])
  .skip))
  (.seq (.reg [⟨(some 9), .move (.tmp 0), none⟩,
    ⟨(some 10), .indexAddr 26 (.tmp 9) (.const (.int .i64 0)), none⟩,
    ⟨(some 11), .load 3 (.tmp 10), none⟩,
    ⟨(some 3), .assign (.tmp 11), none⟩] [0, 3])
  (.seq (.seq (.reg [⟨(some 4), .assign (.const (.int .i64 1)), none⟩] [0, 3, 4])
  (.block 0 (.loop slices_Min___int_int__l0)))
  (.seq (.reg [⟨(some 24), .move (.tmp 3), none⟩,
    ⟨(some 2), .assign (.tmp 24), none⟩] [2])
  .ret)))))
theorem slices_Min___int_int__k : fnOk Try.prog (fun _ => false) 112 = some (slices_Min___int_int__c.strip, 25, [.tmp 2]) := by kernel_rfl
/-- head: [0, 3, 4] -/
def slices_Max___int_int__l0 : ACode := (.seq (.seq (.reg [⟨(some 12), .move (.tmp 4), none⟩,
    ⟨(some 13), .move (.tmp 0), none⟩,
    ⟨(some 14), .call ⟨.builtin .len, #[(.tmp 13)], #[26]⟩, none⟩,
    ⟨(some 15), .binOp .lss 3 (.tmp 12) (.tmp 14) 3, none⟩] [0, 3, 4, 15])
  (.cond (.tmp 15) .skip
  (.exit 0)))
  (.seq (.block 1 (.reg [⟨(some 18), .move (.tmp 3), none⟩,
    ⟨(some 19), .move (.tmp 0), none⟩,
    ⟨(some 20), .move (.tmp 4), none⟩,
    ⟨(some 21), .indexAddr 26 (.tmp 19) (.tmp 20), none⟩,
    ⟨(some 22), .load 3 (.tmp 21), none⟩,
    ⟨(some 23), .call ⟨.builtin .max, #[(.tmp 18), (.tmp 22)], #[3, 3]⟩, none⟩,
    ⟨(some 3), .assign (.tmp 23), none⟩] [0, 3, 4]))
  (.reg [⟨(some 16), .move (.tmp 4), none⟩,
    ⟨(some 17), .binOp .add 3 (.tmp 16) (.const (.int .i64 1)) 3, none⟩,
    ⟨(some 4), .assign (.tmp 17), none⟩] [0, 3, 4])))
/-- slices.Max[[]int,int]: number 113, params [0] -/
def slices_Max___int_int__c : ACode := (.seq (.reg [⟨(some 2), .assign (.const (.int .i64 0)), none⟩] [0])
  (.seq (.seq (.reg [⟨(some 5), .move (.tmp 0), none⟩,
    ⟨(some 6), .call ⟨.builtin .len, #[(.tmp 5)], #[26]⟩, none⟩,
    ⟨(some 7), .binOp .lss 3 (.tmp 6) (.const (.int .i64 1)) 3, none⟩] [0, 7])
  (.cond (.tmp 7) (.reg [⟨(some 8), .makeInterface 9 (.const (.string ⟨#[115, 108, 105, 99, 101, 115, 46, 77, 97, 120, 58, 32, 101, 109, 112, 116, 121, 32, 108, 105, 115, 116]⟩)), none⟩,
    ⟨none, .panic (.tmp 8), none⟩] [0])
  .skip))
  (.seq (.reg [⟨(some 9), .move (.tmp 0), none⟩,
    ⟨(some 10), .indexAddr 26 (.tmp 9) (.const (.int .i64 0)), none⟩,
    ⟨(some 11), .load 3 (.tmp 10), none⟩,
    ⟨(some 3), .assign (.tmp 11), none⟩] [0, 3])
  (.seq (.seq (.reg [⟨(some 4), .assign (.const (.int .i64 1)), none⟩] [0, 3, 4])
  (.block 0 (.loop slices_Max___int_int__l0)))
  (.seq (.reg [⟨(some 24), .move (.tmp 3), none⟩,
    ⟨(some 2), .assign (.tmp 24), none⟩] [2])
  .ret)))))
theorem slices_Max___int_int__k : fnOk Try.prog (fun _ => false) 113 = some (slices_Max___int_int__c.strip, 25, [.tmp 2]) := by kernel_rfl
/-- head: [3, 6, 7, 8] -/
def cmp_Or_int__l0 : ACode := (.seq (.reg [⟨(some 9), .binOp .lss 3 (.tmp 8) (.tmp 7) 3, none⟩] [3, 6, 7, 8, 9])
  (.seq (.cond (.tmp 9) .skip
  (.exit 0))
  (.seq (.block 1 (.seq (.reg [⟨(some 10), .indexAddr 26 (.tmp 6) (.tmp 8), none⟩,
    ⟨(some 11), .load 3 (.tmp 10), none⟩,
    ⟨(some 5), .assign (.tmp 11), none⟩] [3, 5, 6, 7, 8])
  (.seq (.reg [⟨(some 12), .move (.tmp 5), none⟩,
    ⟨(some 13), .move (.tmp 3), none⟩,
    ⟨(some 14), .binOp .neq 3 (.tmp 12) (.tmp 13) 3, none⟩] [3, 5, 6, 7, 8, 14])
  (.cond (.tmp 14) (.seq (.reg [⟨(some 15), .move (.tmp 5), none⟩,
    ⟨(some 2), .assign (.tmp 15), none⟩] [2])
  .ret)
  .skip))))
  (.reg [⟨(some 16), .binOp .add 3 (.tmp 8) (.const (.int .i64 1)) 3, none⟩,
    ⟨(some 8), .move (.tmp 16), none⟩] [3, 6, 7, 8]))))
/-- cmp.Or[int]: number 114, params [0] -/
def cmp_Or_int__c : ACode := (.seq (.reg [⟨(some 2), .assign (.const (.int .i64 0)), none⟩] [0])
  (.seq (.reg [⟨(some 3), .assign (.const (.int .i64 0)), none⟩] [0, 3])
  (.seq (.seq (.reg [⟨(some 6), .move (.tmp 0), none⟩,
    ⟨(some 7), .call ⟨.builtin .len, #[(.tmp 6)], #[26]⟩, none⟩,
    ⟨(some 8), .move (.const (.int .i64 0)), none⟩] [3, 6, 7, 8])
  (.block 0 (.loop cmp_Or_int__l0)))
  (.seq (.reg [⟨(some 17), .move (.tmp 3), none⟩,
    ⟨(some 2), .assign (.tmp 17), none⟩] [2])
  .ret))))
theorem cmp_Or_int__k : fnOk Try.prog (fun _ => false) 114 = some (cmp_Or_int__c.strip, 18, [.tmp 2]) := by kernel_rfl
/-- cmp.Compare[int]: number 115, params [0, 1] -/
def cmp_Compare_int__c : ACode := (.seq (.reg [⟨(some 4), .assign (.const (.int .i64 0)), none⟩] [0, 1])
  (.seq (.reg [⟨(some 7), .move (.tmp 0), none⟩,
    ⟨(some 8), .call ⟨.value (.func 153), #[(.tmp 7)], #[3]⟩, none⟩,
    ⟨(some 5), .assign (.tmp 8), none⟩] [0, 1, 5])
  (.seq (.reg [⟨(some 9), .move (.tmp 1), none⟩,
    ⟨(some 10), .call ⟨.value (.func 153), #[(.tmp 9)], #[3]⟩, none⟩,
    ⟨(some 6), .assign (.tmp 10), none⟩] [0, 1, 5, 6])
  (.seq (.seq (.reg [⟨(some 11), .move (.tmp 5), none⟩] [0, 1, 6, 11])
  (.cond (.tmp 11) (.seq (.seq (.reg [⟨(some 12), .move (.tmp 6), none⟩] [12])
  (.cond (.tmp 12) (.seq (.reg [⟨(some 4), .assign (.const (.int .i64 0)), none⟩] [4])
  .ret)
  .skip))
  (.seq (.reg [⟨(some 4), .assign (.const (.int .i64 (-1))), none⟩] [4])
  .ret))
  .skip))
  (.seq (.seq (.reg [⟨(some 13), .move (.tmp 6), none⟩] [0, 1, 13])
  (.cond (.tmp 13) (.seq (.reg [⟨(some 4), .assign (.const (.int .i64 1)), none⟩] [4])
  .ret)
  .skip))
  (.seq (.seq (.reg [⟨(some 14), .move (.tmp 0), none⟩,
    ⟨(some 15), .move (.tmp 1), none⟩,
    ⟨(some 16), .binOp .lss 3 (.tmp 14) (.tmp 15) 3, none⟩] [0, 1, 16])
  (.cond (.tmp 16) (.seq (.reg [⟨(some 4), .assign (.const (.int .i64 (-1))), none⟩] [4])
  .ret)
  .skip))
  (.seq (.seq (.reg [⟨(some 17), .move (.tmp 0), none⟩,
    ⟨(some 18), .move (.tmp 1), none⟩,
    ⟨(some 19), .binOp .gtr 3 (.tmp 17) (.tmp 18) 3, none⟩] [19])
  (.cond (.tmp 19) (.seq (.reg [⟨(some 4), .assign (.const (.int .i64 1)), none⟩] [4])
  .ret)
  .skip))
  (.seq (.reg [⟨(some 4), .assign (.const (.int .i64 0)), none⟩] [4])
  .ret))))))))
theorem cmp_Compare_int__k : fnOk Try.prog (fun _ => false) 115 = some (cmp_Compare_int__c.strip, 20, [.tmp 4]) := by kernel_rfl
/-- loop.example/g01062/spec.l12Has: number 116, params [0, 1] -/
def spec_l12Has_c : ACode := (.seq (.reg [⟨(some 4), .assign (.const (.bool false)), none⟩] [0, 1])
  (.seq (.reg [⟨(some 5), .move (.tmp 0), none⟩,
    ⟨(some 6), .move (.tmp 1), none⟩,
    ⟨(some 7), .binOp .quo 3 (.tmp 5) (.tmp 6) 3, none⟩,
    ⟨(some 8), .binOp .rem 3 (.tmp 7) (.const (.int .i64 2)) 3, none⟩,
    ⟨(some 9), .binOp .eql 3 (.tmp 8) (.const (.int .i64 1)) 3, none⟩,
    ⟨(some 4), .assign (.tmp 9), none⟩] [4])
  .ret))
theorem spec_l12Has_k : fnOk Try.prog (fun _ => false) 116 = some (spec_l12Has_c.strip, 10, [.tmp 4]) := by kernel_rfl
/-- head: [0, 3, 5, 6] -/
def spec_l12Cost_l0 : ACode := (.seq (.seq (.reg [⟨(some 7), .move (.tmp 6), none⟩,
    ⟨(some 8), .binOp .lss 3 (.tmp 7) (.const (.int .i64 4)) 3, none⟩] [0, 3, 5, 6, 8])
  (.cond (.tmp 8) .skip
  (.exit 0)))
  (.seq (.block 1 (.seq (.reg [⟨(some 11), .move (.tmp 0), none⟩,
    ⟨(some 12), .buildSlice 26 4 #[(0, (.const (.int .i64 1))), (1, (.const (.int .i64 2))), (2, (.const (.int .i64 4))), (3, (.const (.int .i64 8)))], none⟩,
    ⟨(some 13), .move (.tmp 6), none⟩,
    ⟨(some 14), .indexAddr 26 (.tmp 12) (.tmp 13), none⟩,
    ⟨(some 15), .load 3 (.tmp 14), none⟩,
    ⟨(some 16), .call ⟨.value (.func 116), #[(.tmp 11), (.tmp 15)], #[3, 3]⟩, none⟩] [0, 3, 5, 6, 16])
  (.cond (.tmp 16) (.reg [⟨(some 17), .move (.tmp 5), none⟩,
    ⟨(some 18), .move (.tmp 6), none⟩,
    ⟨(some 19), .indexAddr 76 (.tmp 3) (.tmp 18), none⟩,
    ⟨(some 20), .load 3 (.tmp 19), none⟩,
    ⟨(some 21), .binOp .add 3 (.tmp 17) (.tmp 20) 3, none⟩,
    ⟨(some 5), .assign (.tmp 21), none⟩] [0, 3, 5, 6])
  .skip)))
  (.reg [⟨(some 9), .move (.tmp 6), none⟩,
    ⟨(some 10), .binOp .add 3 (.tmp 9) (.const (.int .i64 1)) 3, none⟩,
    ⟨(some 6), .assign (.tmp 10), none⟩] [0, 3, 5, 6])))
/-- loop.example/g01062/spec.l12Cost: number 118, params [0, 1] -/
def spec_l12Cost_c : ACode := (.seq (.reg [⟨(some 3), .box 76 (.tmp 1), none⟩,
    ⟨(some 4), .assign (.const (.int .i64 0)), none⟩] [0, 3])
  (.seq (.reg [⟨(some 5), .assign (.const (.int .i64 0)), none⟩] [0, 3, 5])
  (.seq (.seq (.reg [⟨(some 6), .assign (.const (.int .i64 0)), none⟩] [0, 3, 5, 6])
  (.block 0 (.loop spec_l12Cost_l0)))
  (.seq (.reg [⟨(some 22), .move (.tmp 5), none⟩,
    ⟨(some 4), .assign (.tmp 22), none⟩] [4])
  .ret))))
theorem spec_l12Cost_k : fnOk Try.prog (fun _ => false) 118 = some (spec_l12Cost_c.strip, 23, [.tmp 4]) := by kernel_rfl
/-- loop.example/g01062/spec.l8One: number 128, params [0] -/
def spec_l8One_c : ACode := (.seq (.reg [⟨(some 1), .box 100 (.tmp 0), none⟩,
    ⟨(some 2), .assign (.const (.bool false)), none⟩] [1])
  (.seq (.reg [⟨(some 3), .fieldAddr 100 (.tmp 1) 0, none⟩,
    ⟨(some 4), .load 3 (.tmp 3), none⟩,
    ⟨(some 5), .call ⟨.value (.func 140), #[(.tmp 4)], #[3]⟩, none⟩,
    ⟨(some 6), .move (.tmp 5), none⟩,
    ⟨(some 7), .fieldAddr 100 (.tmp 1) 1, (some (some 6, true))⟩,
    ⟨(some 8), .load 3 (.tmp 7), (some (some 6, true))⟩,
    ⟨(some 9), .call ⟨.value (.func 141), #[(.tmp 8)], #[3]⟩, (some (some 6, true))⟩,
    ⟨(some 10), .pick (.tmp 6) (.tmp 9) (.const (.bool false)), none⟩,
    ⟨(some 11), .move (.tmp 10), none⟩,
    ⟨(some 12), .fieldAddr 100 (.tmp 1) 3, (some (some 11, true))⟩,
    ⟨(some 13), .load 3 (.tmp 12), (some (some 11, true))⟩,
    ⟨(some 14), .call ⟨.value (.func 139), #[(.tmp 13)], #[3]⟩, (some (some 11, true))⟩,
    ⟨(some 15), .pick (.tmp 11) (.tmp 14) (.const (.bool false)), none⟩,
    ⟨(some 16), .move (.tmp 15), none⟩,
    ⟨(some 17), .fieldAddr 100 (.tmp 1) 2, (some (some 16, true))⟩,
    ⟨(some 18), .load 3 (.tmp 17), (some (some 16, true))⟩,
    ⟨(some 19), .fieldAddr 100 (.tmp 1) 3, (some (some 16, true))⟩,
    ⟨(some 20), .load 3 (.tmp 19), (some (some 16, true))⟩,
    ⟨(some 21), .call ⟨.value (.func 102), #[(.tmp 18), (.const (.int .i64 0)), (.tmp 20)], #[3, 3, 3]⟩, (some (some 16, true))⟩,
    ⟨(some 22), .pick (.tmp 16) (.tmp 21) (.const (.bool false)), none⟩,
    ⟨(some 23), .move (.tmp 22), none⟩,
    ⟨(some 24), .fieldAddr 100 (.tmp 1) 4, (some (some 23, true))⟩,
    ⟨(some 25), .load 3 (.tmp 24), (some (some 23, true))⟩,
    ⟨(some 26), .call ⟨.value (.func 142), #[(.tmp 25)], #[3]⟩, (some (some 23, true))⟩,
    ⟨(some 27), .pick (.tmp 23) (.tmp 26) (.const (.bool false)), none⟩,
    ⟨(some 2), .assign (.tmp 27), none⟩] [2])
  .ret))
theorem spec_l8One_k : fnOk Try.prog (fun _ => false) 128 = some (spec_l8One_c.strip, 28, [.tmp 2]) := by kernel_rfl
/-- loop.example/g01062/spec.l8Code: number 129, params [0] -/
def spec_l8Code_c : ACode := (.seq (.reg [⟨(some 1), .box 100 (.tmp 0), none⟩,
    ⟨(some 2), .assign (.const (.int .i64 0)), none⟩] [1])
  (.seq (.reg [⟨(some 3), .fieldAddr 100 (.tmp 1) 0, none⟩,
    ⟨(some 4), .load 3 (.tmp 3), none⟩,
    ⟨(some 5), .binOp .mul 3 (.const (.int .i64 10000)) (.tmp 4) 3, none⟩,
    ⟨(some 6), .fieldAddr 100 (.tmp 1) 1, none⟩,
    ⟨(some 7), .load 3 (.tmp 6), none⟩,
    ⟨(some 8), .binOp .add 3 (.tmp 5) (.tmp 7) 3, none⟩,
    ⟨(some 9), .binOp .mul 3 (.tmp 8) (.const (.int .i64 10000)) 3, none⟩,
    ⟨(some 10), .fieldAddr 100 (.tmp 1) 2, none⟩,
    ⟨(some 11), .load 3 (.tmp 10), none⟩,
    ⟨(some 12), .binOp .add 3 (.tmp 9) (.tmp 11) 3, none⟩,
    ⟨(some 2), .assign (.tmp 12), none⟩] [2])
  .ret))
theorem spec_l8Code_k : fnOk Try.prog (fun _ => false) 129 = some (spec_l8Code_c.strip, 13, [.tmp 2]) := by kernel_rfl
/-- loop.example/g01062/impl.isRate: number 131, params [0] -/
def impl_isRate_c : ACode := (.seq (.reg [⟨(some 1), .box 100 (.tmp 0), none⟩,
    ⟨(some 2), .assign (.const (.bool false)), none⟩] [1])
  (.seq (.reg [⟨(some 3), .fieldAddr 100 (.tmp 1) 0, none⟩,
    ⟨(some 4), .load 3 (.tmp 3), none⟩,
    ⟨(some 5), .call ⟨.value (.func 136), #[(.tmp 4)], #[3]⟩, none⟩,
    ⟨(some 6), .move (.tmp 5), none⟩,
    ⟨(some 7), .fieldAddr 100 (.tmp 1) 1, (some (some 6, true))⟩,
    ⟨(some 8), .load 3 (.tmp 7), (some (some 6, true))⟩,
    ⟨(some 9), .call ⟨.value (.func 137), #[(.tmp 8)], #[3]⟩, (some (some 6, true))⟩,
    ⟨(some 10), .pick (.tmp 6) (.tmp 9) (.const (.bool false)), none⟩,
    ⟨(some 11), .move (.tmp 10), none⟩,
    ⟨(some 12), .fieldAddr 100 (.tmp 1) 2, (some (some 11, true))⟩,
    ⟨(some 13), .load 3 (.tmp 12), (some (some 11, true))⟩,
    ⟨(some 14), .call ⟨.value (.func 135), #[(.tmp 13)], #[3]⟩, (some (some 11, true))⟩,
    ⟨(some 15), .pick (.tmp 11) (.tmp 14) (.const (.bool false)), none⟩,
    ⟨(some 16), .move (.tmp 15), none⟩,
    ⟨(some 17), .fieldAddr 100 (.tmp 1) 3, (some (some 16, true))⟩,
    ⟨(some 18), .load 3 (.tmp 17), (some (some 16, true))⟩,
    ⟨(some 19), .call ⟨.value (.func 135), #[(.tmp 18)], #[3]⟩, (some (some 16, true))⟩,
    ⟨(some 20), .pick (.tmp 16) (.tmp 19) (.const (.bool false)), none⟩,
    ⟨(some 21), .move (.tmp 20), none⟩,
    ⟨(some 22), .fieldAddr 100 (.tmp 1) 2, (some (some 21, true))⟩,
    ⟨(some 23), .load 3 (.tmp 22), (some (some 21, true))⟩,
    ⟨(some 24), .fieldAddr 100 (.tmp 1) 3, (some (some 21, true))⟩,
    ⟨(some 25), .load 3 (.tmp 24), (some (some 21, true))⟩,
    ⟨(some 26), .binOp .leq 3 (.tmp 23) (.tmp 25) 3, (some (some 21, true))⟩,
    ⟨(some 27), .pick (.tmp 21) (.tmp 26) (.const (.bool false)), none⟩,
    ⟨(some 28), .move (.tmp 27), none⟩,
    ⟨(some 29), .fieldAddr 100 (.tmp 1) 4, (some (some 28, true))⟩,
    ⟨(some 30), .load 3 (.tmp 29), (some (some 28, true))⟩,
    ⟨(some 31), .call ⟨.value (.func 138), #[(.tmp 30)], #[3]⟩, (some (some 28, true))⟩,
    ⟨(some 32), .pick (.tmp 28) (.tmp 31) (.const (.bool false)), none⟩,
    ⟨(some 2), .assign (.tmp 32), none⟩] [2])
  .ret))
theorem impl_isRate_k : fnOk Try.prog (fun _ => false) 131 = some (impl_isRate_c.strip, 33, [.tmp 2]) := by kernel_rfl
/-- loop.example/g01062/impl.isDay: number 135, params [0] -/
def impl_isDay_c : ACode := (.seq (.reg [⟨(some 2), .assign (.const (.bool false)), none⟩] [0])
  (.seq (.reg [⟨(some 3), .move (.tmp 0), none⟩,
    ⟨(some 4), .call ⟨.value (.func 101), #[(.tmp 3), (.const (.int .i64 0)), (.const (.int .i64 4000))], #[3, 3, 3]⟩, none⟩,
    ⟨(some 2), .assign (.tmp 4), none⟩] [2])
  .ret))
theorem impl_isDay_k : fnOk Try.prog (fun _ => false) 135 = some (impl_isDay_c.strip, 5, [.tmp 2]) := by kernel_rfl
/-- loop.example/g01062/impl.isZone: number 136, params [0] -/
def impl_isZone_c : ACode := (.seq (.reg [⟨(some 2), .assign (.const (.bool false)), none⟩] [0])
  (.seq (.reg [⟨(some 3), .move (.tmp 0), none⟩,
    ⟨(some 4), .call ⟨.value (.func 101), #[(.tmp 3), (.const (.int .i64 0)), (.const (.int .i64 9))], #[3, 3, 3]⟩, none⟩,
    ⟨(some 2), .assign (.tmp 4), none⟩] [2])
  .ret))
theorem impl_isZone_k : fnOk Try.prog (fun _ => false) 136 = some (impl_isZone_c.strip, 5, [.tmp 2]) := by kernel_rfl
/-- loop.example/g01062/impl.isWeight: number 137, params [0] -/
def impl_isWeight_c : ACode := (.seq (.reg [⟨(some 2), .assign (.const (.bool false)), none⟩] [0])
  (.seq (.reg [⟨(some 3), .move (.tmp 0), none⟩,
    ⟨(some 4), .call ⟨.value (.func 101), #[(.tmp 3), (.const (.int .i64 1)), (.const (.int .i64 2000))], #[3, 3, 3]⟩, none⟩,
    ⟨(some 2), .assign (.tmp 4), none⟩] [2])
  .ret))
theorem impl_isWeight_k : fnOk Try.prog (fun _ => false) 137 = some (impl_isWeight_c.strip, 5, [.tmp 2]) := by kernel_rfl
/-- loop.example/g01062/impl.isCents: number 138, params [0] -/
def impl_isCents_c : ACode := (.seq (.reg [⟨(some 2), .assign (.const (.bool false)), none⟩] [0])
  (.seq (.reg [⟨(some 3), .move (.tmp 0), none⟩,
    ⟨(some 4), .call ⟨.value (.func 101), #[(.tmp 3), (.const (.int .i64 1)), (.const (.int .i64 9999))], #[3, 3, 3]⟩, none⟩,
    ⟨(some 2), .assign (.tmp 4), none⟩] [2])
  .ret))
theorem impl_isCents_k : fnOk Try.prog (fun _ => false) 138 = some (impl_isCents_c.strip, 5, [.tmp 2]) := by kernel_rfl
/-- loop.example/g01062/spec.l2Day: number 139, params [0] -/
def spec_l2Day_c : ACode := (.seq (.reg [⟨(some 2), .assign (.const (.bool false)), none⟩] [0])
  (.seq (.reg [⟨(some 3), .move (.tmp 0), none⟩,
    ⟨(some 4), .call ⟨.value (.func 102), #[(.tmp 3), (.const (.int .i64 0)), (.const (.int .i64 4000))], #[3, 3, 3]⟩, none⟩,
    ⟨(some 2), .assign (.tmp 4), none⟩] [2])
  .ret))
theorem spec_l2Day_k : fnOk Try.prog (fun _ => false) 139 = some (spec_l2Day_c.strip, 5, [.tmp 2]) := by kernel_rfl
/-- loop.example/g01062/spec.l8Zone: number 140, params [0] -/
def spec_l8Zone_c : ACode := (.seq (.reg [⟨(some 2), .assign (.const (.bool false)), none⟩] [0])
  (.seq (.reg [⟨(some 3), .move (.tmp 0), none⟩,
    ⟨(some 4), .call ⟨.value (.func 102), #[(.tmp 3), (.const (.int .i64 0)), (.const (.int .i64 9))], #[3, 3, 3]⟩, none⟩,
    ⟨(some 2), .assign (.tmp 4), none⟩] [2])
  .ret))
theorem spec_l8Zone_k : fnOk Try.prog (fun _ => false) 140 = some (spec_l8Zone_c.strip, 5, [.tmp 2]) := by kernel_rfl
/-- loop.example/g01062/spec.l8Grams: number 141, params [0] -/
def spec_l8Grams_c : ACode := (.seq (.reg [⟨(some 2), .assign (.const (.bool false)), none⟩] [0])
  (.seq (.reg [⟨(some 3), .move (.tmp 0), none⟩,
    ⟨(some 4), .call ⟨.value (.func 102), #[(.tmp 3), (.const (.int .i64 1)), (.const (.int .i64 2000))], #[3, 3, 3]⟩, none⟩,
    ⟨(some 2), .assign (.tmp 4), none⟩] [2])
  .ret))
theorem spec_l8Grams_k : fnOk Try.prog (fun _ => false) 141 = some (spec_l8Grams_c.strip, 5, [.tmp 2]) := by kernel_rfl
/-- loop.example/g01062/spec.l8Cents: number 142, params [0] -/
def spec_l8Cents_c : ACode := (.seq (.reg [⟨(some 2), .assign (.const (.bool false)), none⟩] [0])
  (.seq (.reg [⟨(some 3), .move (.tmp 0), none⟩,
    ⟨(some 4), .call ⟨.value (.func 102), #[(.tmp 3), (.const (.int .i64 1)), (.const (.int .i64 9999))], #[3, 3, 3]⟩, none⟩,
    ⟨(some 2), .assign (.tmp 4), none⟩] [2])
  .ret))
theorem spec_l8Cents_k : fnOk Try.prog (fun _ => false) 142 = some (spec_l8Cents_c.strip, 5, [.tmp 2]) := by kernel_rfl
/-- loop.example/g01062/spec.l9Minute: number 143, params [0] -/
def spec_l9Minute_c : ACode := (.seq (.reg [⟨(some 2), .assign (.const (.bool false)), none⟩] [0])
  (.seq (.reg [⟨(some 3), .move (.tmp 0), none⟩,
    ⟨(some 4), .call ⟨.value (.func 102), #[(.tmp 3), (.const (.int .i64 0)), (.const (.int .i64 9999))], #[3, 3, 3]⟩, none⟩,
    ⟨(some 2), .assign (.tmp 4), none⟩] [2])
  .ret))
theorem spec_l9Minute_k : fnOk Try.prog (fun _ => false) 143 = some (spec_l9Minute_c.strip, 5, [.tmp 2]) := by kernel_rfl
/-- math/bits.OnesCount: number 146, params [0] -/
def math_bits_OnesCount_c : ACode := (.seq (.reg [⟨(some 2), .assign (.const (.int .i64 0)), none⟩] [0])
  (.seq (.cond (.const (.bool false)) (.seq (.reg [⟨(some 3), .move (.tmp 0), none⟩,
    ⟨(some 4), .convert 142 157 (.tmp 3), none⟩,
    ⟨(some 5), .call ⟨.value (.func 159), #[(.tmp 4)], #[157]⟩, none⟩,
    ⟨(some 2), .assign (.tmp 5), none⟩] [2])
  .ret)
  .skip)
  (.seq (.reg [⟨(some 6), .move (.tmp 0), none⟩,
    ⟨(some 7), .call ⟨.value (.func 160), #[(.tmp 6)], #[105]⟩, none⟩,
    ⟨(some 2), .assign (.tmp 7), none⟩] [2])
  .ret)))
theorem math_bits_OnesCount_k : fnOk Try.prog (fun _ => false) 146 = some (math_bits_OnesCount_c.strip, 8, [.tmp 2]) := by kernel_rfl
/-- head: [0, 2, 4, 6, 8, 22, 23, 24] -/
def impl_explainBy_l0 : ACode := (.seq (.reg [⟨(some 25), .binOp .lss 3 (.tmp 24) (.tmp 23) 3, none⟩] [0, 2, 4, 6, 8, 22, 23, 24, 25])
  (.seq (.cond (.tmp 25) .skip
  (.exit 0))
  (.seq (.block 1 (.seq (.reg [⟨(some 26), .indexAddr 43 (.tmp 22) (.tmp 24), none⟩,
    ⟨(some 27), .load 100 (.tmp 26), none⟩,
    ⟨(some 10), .alloc 100, none⟩,
    ⟨none, .store 100 (.tmp 10) (.tmp 27), none⟩] [0, 2, 4, 6, 8, 10, 22, 23, 24])
  (.seq (.reg [⟨(some 28), .fieldAddr 100 (.tmp 10) 0, none⟩,
    ⟨(some 29), .load 3 (.tmp 28), none⟩,
    ⟨(some 30), .fieldAddr 51 (.tmp 4) 2, none⟩,
    ⟨(some 31), .load 3 (.tmp 30), none⟩,
    ⟨(some 32), .binOp .eql 3 (.tmp 29) (.tmp 31) 3, none⟩,
    ⟨(some 33), .move (.tmp 32), none⟩,
    ⟨(some 34), .fieldAddr 100 (.tmp 10) 1, (some (some 33, true))⟩,
    ⟨(some 35), .load 3 (.tmp 34), (some (some 33, true))⟩,
    ⟨(some 36), .binOp .lss 3 (.tmp 35) (.const (.int .i64 2000)) 3, (some (some 33, true))⟩,
    ⟨(some 37), .pick (.tmp 33) (.tmp 36) (.const (.bool false)), none⟩] [0, 2, 4, 6, 8, 10, 22, 23, 24, 37])
  (.cond (.tmp 37) (.reg [⟨(some 38), .move (.tmp 8), none⟩,
    ⟨(some 39), .fieldAddr 100 (.tmp 10) 1, none⟩,
    ⟨(some 40), .load 3 (.tmp 39), none⟩,
    ⟨(some 41), .binOp .add 3 (.tmp 40) (.const (.int .i64 1)) 3, none⟩,
    ⟨(some 42), .buildSlice 26 1 #[(0, (.tmp 41))], none⟩,
    ⟨(some 43), .call ⟨.builtin .append, #[(.tmp 38), (.tmp 42)], #[26, 26]⟩, none⟩,
    ⟨(some 8), .assign (.tmp 43), none⟩] [0, 2, 4, 6, 8, 22, 23, 24])
  .skip))))
  (.reg [⟨(some 44), .binOp .add 3 (.tmp 24) (.const (.int .i64 1)) 3, none⟩,
    ⟨(some 24), .move (.tmp 44), none⟩] [0, 2, 4, 6, 8, 22, 23, 24]))))
/-- head: [0, 2, 4, 6, 47, 48, 49] -/
def impl_explainBy_l1 : ACode := (.seq (.reg [⟨(some 50), .binOp .lss 3 (.tmp 49) (.tmp 48) 3, none⟩] [0, 2, 4, 6, 47, 48, 49, 50])
  (.seq (.cond (.tmp 50) .skip
  (.exit 2))
  (.seq (.block 3 (.seq (.reg [⟨(some 51), .indexAddr 26 (.tmp 47) (.tmp 49), none⟩,
    ⟨(some 52), .load 3 (.tmp 51), none⟩,
    ⟨(some 12), .assign (.tmp 52), none⟩] [0, 2, 4, 6, 12, 47, 48, 49])
  (.seq (.reg [⟨(some 54), .move (.tmp 0), none⟩,
    ⟨(some 55), .fieldAddr 51 (.tmp 4) 1, none⟩,
    ⟨(some 56), .load 3 (.tmp 55), none⟩,
    ⟨(some 57), .fieldAddr 51 (.tmp 4) 2, none⟩,
    ⟨(some 58), .load 3 (.tmp 57), none⟩,
    ⟨(some 59), .move (.tmp 12), none⟩,
    ⟨(some 60), .call ⟨.value (.func 92), #[(.tmp 54), (.tmp 56), (.tmp 58), (.tmp 59)], #[43, 3, 3, 3]⟩, none⟩,
    ⟨(some 53), .move (.tmp 60), none⟩,
    ⟨(some 61), .extract (.tmp 53) 0, none⟩,
    ⟨(some 62), .extract (.tmp 53) 1, none⟩,
    ⟨(some 13), .assign (.tmp 61), none⟩,
    ⟨(some 14), .assign (.tmp 62), none⟩] [0, 2, 4, 6, 12, 13, 14, 47, 48, 49])
  (.seq (.reg [⟨(some 63), .move (.tmp 14), none⟩,
    ⟨(some 64), .move (.tmp 63), none⟩,
    ⟨(some 65), .move (.tmp 13), (some (some 64, true))⟩,
    ⟨(some 66), .fieldAddr 51 (.tmp 4) 4, (some (some 64, true))⟩,
    ⟨(some 67), .load 3 (.tmp 66), (some (some 64, true))⟩,
    ⟨(some 68), .binOp .eql 3 (.tmp 65) (.tmp 67) 3, (some (some 64, true))⟩,
    ⟨(some 69), .move (.tmp 68), (some (some 64, true))⟩,
    ⟨(some 70), .move (.tmp 2), (some (some 69, false))⟩,
    ⟨(some 71), .binOp .and 3 (.tmp 70) (.const (.int .i64 8)) 3, (some (some 69, false))⟩,
    ⟨(some 72), .binOp .neq 3 (.tmp 71) (.const (.int .i64 0)) 3, (some (some 69, false))⟩,
    ⟨(some 73), .pick (.tmp 69) (.const (.bool true)) (.tmp 72), (some (some 64, true))⟩,
    ⟨(some 74), .pick (.tmp 64) (.tmp 73) (.const (.bool false)), none⟩] [0, 2, 4, 6, 12, 13, 47, 48, 49, 74])
  (.cond (.tmp 74) (.seq (.reg [⟨(some 75), .move (.tmp 12), none⟩,
    ⟨(some 76), .move (.tmp 13), none⟩,
    ⟨(some 77), .fieldAddr 51 (.tmp 4) 3, none⟩,
    ⟨none, .store 3 (.tmp 77) (.tmp 75), none⟩,
    ⟨(some 78), .fieldAddr 51 (.tmp 4) 4, none⟩,
    ⟨none, .store 3 (.tmp 78) (.tmp 76), none⟩] [4, 6])
  (.seq (.reg [⟨(some 79), .load 51 (.tmp 4), none⟩,
    ⟨none, .store 51 (.tmp 6) (.tmp 79), none⟩,
    ⟨(some 7), .assign (.const (.bool true)), none⟩] [6, 7])
  .ret))
  .skip)))))
  (.reg [⟨(some 80), .binOp .add 3 (.tmp 49) (.const (.int .i64 1)) 3, none⟩,
    ⟨(some 49), .move (.tmp 80), none⟩] [0, 2, 4, 6, 47, 48, 49]))))
/-- loop.example/g01062/impl.explainBy: number 148, params [0, 1, 2] -/
def impl_explainBy_c : ACode := (.seq (.reg [⟨(some 4), .box 51 (.tmp 1), none⟩,
    ⟨(some 6), .alloc 51, none⟩,
    ⟨(some 7), .assign (.const (.bool false)), none⟩] [0, 2, 4, 6])
  (.seq (.reg [⟨(some 15), .fieldAddr 51 (.tmp 4) 3, none⟩,
    ⟨(some 16), .load 3 (.tmp 15), none⟩,
    ⟨(some 17), .buildSlice 26 1 #[(0, (.tmp 16))], none⟩,
    ⟨(some 8), .assign (.tmp 17), none⟩] [0, 2, 4, 6, 8])
  (.seq (.seq (.reg [⟨(some 18), .move (.tmp 2), none⟩,
    ⟨(some 19), .binOp .and 3 (.tmp 18) (.const (.int .i64 4)) 3, none⟩,
    ⟨(some 20), .binOp .neq 3 (.tmp 19) (.const (.int .i64 0)) 3, none⟩] [0, 2, 4, 6, 8, 20])
  (.cond (.tmp 20) (.seq (.reg [⟨(some 21), .buildSlice 26 1 #[(0, (.const (.int .i64 1)))], none⟩,
    ⟨(some 8), .assign (.tmp 21), none⟩] [0, 2, 4, 6, 8])
  (.seq (.seq (.reg [⟨(some 22), .move (.tmp 0), none⟩,
    ⟨(some 23), .call ⟨.builtin .len, #[(.tmp 22)], #[43]⟩, none⟩,
    ⟨(some 24), .move (.const (.int .i64 0)), none⟩] [0, 2, 4, 6, 8, 22, 23, 24])
  (.block 0 (.loop impl_explainBy_l0)))
  (.reg [⟨(some 45), .move (.tmp 8), none⟩,
    ⟨(some 46), .call ⟨.value (.func 147), #[(.tmp 45)], #[26]⟩, none⟩] [0, 2, 4, 6, 8])))
  .skip))
  (.seq (.seq (.reg [⟨(some 47), .move (.tmp 8), none⟩,
    ⟨(some 48), .call ⟨.builtin .len, #[(.tmp 47)], #[26]⟩, none⟩,
    ⟨(some 49), .move (.const (.int .i64 0)), none⟩] [0, 2, 4, 6, 47, 48, 49])
  (.block 2 (.loop impl_explainBy_l1)))
  (.seq (.reg [⟨(some 81), .build 51 #[], none⟩,
    ⟨none, .store 51 (.tmp 6) (.tmp 81), none⟩,
    ⟨(some 7), .assign (.const (.bool false)), none⟩] [6, 7])
  .ret)))))
theorem impl_explainBy_k : fnOk Try.prog (fun _ => false) 148 = some (impl_explainBy_c.strip, 82, [.cell 6 51, .tmp 7]) := by kernel_rfl
/-- loop.example/g01062/spec.l12Smaller: number 149, params [0, 1] -/
def spec_l12Smaller_c : ACode := (.seq (.reg [⟨(some 4), .assign (.const (.bool false)), none⟩] [0, 1])
  (.seq (.reg [⟨(some 7), .move (.tmp 0), none⟩,
    ⟨(some 8), .build 76 #[(0, (.const (.int .i64 1))), (1, (.const (.int .i64 1))), (2, (.const (.int .i64 1))), (3, (.const (.int .i64 1)))], none⟩,
    ⟨(some 9), .call ⟨.value (.func 118), #[(.tmp 7), (.tmp 8)], #[3, 76]⟩, none⟩,
    ⟨(some 10), .move (.tmp 1), none⟩,
    ⟨(some 11), .build 76 #[(0, (.const (.int .i64 1))), (1, (.const (.int .i64 1))), (2, (.const (.int .i64 1))), (3, (.const (.int .i64 1)))], none⟩,
    ⟨(some 12), .call ⟨.value (.func 118), #[(.tmp 10), (.tmp 11)], #[3, 76]⟩, none⟩,
    ⟨(some 5), .assign (.tmp 9), none⟩,
    ⟨(some 6), .assign (.tmp 12), none⟩] [0, 1, 5, 6])
  (.seq (.reg [⟨(some 13), .move (.tmp 5), none⟩,
    ⟨(some 14), .move (.tmp 6), none⟩,
    ⟨(some 15), .binOp .lss 3 (.tmp 13) (.tmp 14) 3, none⟩,
    ⟨(some 16), .move (.tmp 15), none⟩,
    ⟨(some 17), .move (.tmp 5), (some (some 16, false))⟩,
    ⟨(some 18), .move (.tmp 6), (some (some 16, false))⟩,
    ⟨(some 19), .binOp .eql 3 (.tmp 17) (.tmp 18) 3, (some (some 16, false))⟩,
    ⟨(some 20), .move (.tmp 19), (some (some 16, false))⟩,
    ⟨(some 21), .move (.tmp 0), (some (some 20, true))⟩,
    ⟨(some 22), .move (.tmp 1), (some (some 20, true))⟩,
    ⟨(some 23), .binOp .lss 3 (.tmp 21) (.tmp 22) 3, (some (some 20, true))⟩,
    ⟨(some 24), .pick (.tmp 20) (.tmp 23) (.const (.bool false)), (some (some 16, false))⟩,
    ⟨(some 25), .pick (.tmp 16) (.const (.bool true)) (.tmp 24), none⟩,
    ⟨(some 4), .assign (.tmp 25), none⟩] [4])
  .ret)))
theorem spec_l12Smaller_k : fnOk Try.prog (fun _ => false) 149 = some (spec_l12Smaller_c.strip, 26, [.tmp 4]) := by kernel_rfl
/-- head: [0, 7, 8] -/
def spec_l12Days_l0 : ACode := (.seq (.seq (.reg [⟨(some 14), .move (.tmp 8), none⟩,
    ⟨(some 15), .move (.tmp 0), none⟩,
    ⟨(some 16), .call ⟨.builtin .len, #[(.tmp 15)], #[43]⟩, none⟩,
    ⟨(some 17), .binOp .lss 3 (.tmp 14) (.tmp 16) 3, none⟩] [0, 7, 8, 17])
  (.cond (.tmp 17) .skip
  (.exit 0)))
  (.seq (.block 1 (.seq (.reg [⟨(some 20), .move (.tmp 7), none⟩,
    ⟨(some 21), .move (.tmp 0), none⟩,
    ⟨(some 22), .move (.tmp 8), none⟩,
    ⟨(some 23), .indexAddr 43 (.tmp 21) (.tmp 22), none⟩,
    ⟨(some 24), .fieldAddr 100 (.tmp 23) 2, none⟩,
    ⟨(some 25), .load 3 (.tmp 24), none⟩,
    ⟨(some 26), .call ⟨.value (.func 163), #[(.tmp 20), (.tmp 25)], #[26, 3]⟩, none⟩,
    ⟨(some 7), .assign (.tmp 26), none⟩] [0, 7, 8])
  (.seq (.reg [⟨(some 27), .move (.tmp 0), none⟩,
    ⟨(some 28), .move (.tmp 8), none⟩,
    ⟨(some 29), .indexAddr 43 (.tmp 27) (.tmp 28), none⟩,
    ⟨(some 30), .fieldAddr 100 (.tmp 29) 3, none⟩,
    ⟨(some 31), .load 3 (.tmp 30), none⟩,
    ⟨(some 32), .binOp .lss 3 (.tmp 31) (.const (.int .i64 4000)) 3, none⟩] [0, 7, 8, 32])
  (.cond (.tmp 32) (.reg [⟨(some 33), .move (.tmp 7), none⟩,
    ⟨(some 34), .move (.tmp 0), none⟩,
    ⟨(some 35), .move (.tmp 8), none⟩,
    ⟨(some 36), .indexAddr 43 (.tmp 34) (.tmp 35), none⟩,
    ⟨(some 37), .fieldAddr 100 (.tmp 36) 3, none⟩,
    ⟨(some 38), .load 3 (.tmp 37), none⟩,
    ⟨(some 39), .binOp .add 3 (.tmp 38) (.const (.int .i64 1)) 3, none⟩,
    ⟨(some 40), .call ⟨.value (.func 163), #[(.tmp 33), (.tmp 39)], #[26, 3]⟩, none⟩,
    ⟨(some 7), .assign (.tmp 40), none⟩] [0, 7, 8])
  .skip))))
  (.reg [⟨(some 18), .move (.tmp 8), none⟩,
    ⟨(some 19), .binOp .add 3 (.tmp 18) (.const (.int .i64 1)) 3, none⟩,
    ⟨(some 8), .assign (.tmp 19), none⟩] [0, 7, 8])))
/-- loop.example/g01062/spec.l12Days: number 150, params [0, 1, 2] -/
def spec_l12Days_c : ACode := (.seq (.reg [⟨(some 6), .assign (.const (.slice none 0 0)), none⟩] [0, 1, 2])
  (.seq (.seq (.reg [⟨(some 9), .move (.tmp 2), none⟩,
    ⟨(some 10), .unOp .not 4 (.tmp 9), none⟩] [0, 1, 10])
  (.cond (.tmp 10) (.seq (.reg [⟨(some 11), .move (.tmp 1), none⟩,
    ⟨(some 12), .buildSlice 26 1 #[(0, (.tmp 11))], none⟩,
    ⟨(some 6), .assign (.tmp 12), none⟩] [6])
  .ret)
  .skip))
  (.seq (.reg [⟨(some 13), .buildSlice 26 1 #[(0, (.const (.int .i64 0)))], none⟩,
    ⟨(some 7), .assign (.tmp 13), none⟩] [0, 7])
  (.seq (.seq (.reg [⟨(some 8), .assign (.const (.int .i64 0)), none⟩] [0, 7, 8])
  (.block 0 (.loop spec_l12Days_l0)))
  (.seq (.reg [⟨(some 41), .move (.tmp 7), none⟩,
    ⟨(some 6), .assign (.tmp 41), none⟩] [6])
  .ret)))))
theorem spec_l12Days_k : fnOk Try.prog (fun _ => false) 150 = some (spec_l12Days_c.strip, 42, [.tmp 6]) := by kernel_rfl
/-- loop.example/g01062/spec.l12Zones: number 151, params [0, 1] -/
def spec_l12Zones_c : ACode := (.seq (.reg [⟨(some 4), .assign (.const (.slice none 0 0)), none⟩] [0, 1])
  (.seq (.seq (.reg [⟨(some 5), .move (.tmp 1), none⟩,
    ⟨(some 6), .unOp .not 4 (.tmp 5), none⟩] [0, 6])
  (.cond (.tmp 6) (.seq (.reg [⟨(some 7), .move (.tmp 0), none⟩,
    ⟨(some 8), .buildSlice 26 1 #[(0, (.tmp 7))], none⟩,
    ⟨(some 4), .assign (.tmp 8), none⟩] [4])
  .ret)
  .skip))
  (.seq (.reg [⟨(some 9), .buildSlice 26 10 #[(0, (.const (.int .i64 0))), (1, (.const (.int .i64 1))), (2, (.const (.int .i64 2))), (3, (.const (.int .i64 3))), (4, (.const (.int .i64 4))), (5, (.const (.int .i64 5))), (6, (.const (.int .i64 6))), (7, (.const (.int .i64 7))), (8, (.const (.int .i64 8))), (9, (.const (.int .i64 9)))], none⟩,
    ⟨(some 4), .assign (.tmp 9), none⟩] [4])
  .ret)))
theorem spec_l12Zones_k : fnOk Try.prog (fun _ => false) 151 = some (spec_l12Zones_c.strip, 10, [.tmp 4]) := by kernel_rfl
/-- head: [0, 7, 8] -/
def spec_l12Weights_l0 : ACode := (.seq (.seq (.reg [⟨(some 14), .move (.tmp 8), none⟩,
    ⟨(some 15), .move (.tmp 0), none⟩,
    ⟨(some 16), .call ⟨.builtin .len, #[(.tmp 15)], #[43]⟩, none⟩,
    ⟨(some 17), .binOp .lss 3 (.tmp 14) (.tmp 16) 3, none⟩] [0, 7, 8, 17])
  (.cond (.tmp 17) .skip
  (.exit 0)))
  (.seq (.block 1 (.seq (.reg [⟨(some 20), .move (.tmp 0), none⟩,
    ⟨(some 21), .move (.tmp 8), none⟩,
    ⟨(some 22), .indexAddr 43 (.tmp 20) (.tmp 21), none⟩,
    ⟨(some 23), .fieldAddr 100 (.tmp 22) 1, none⟩,
    ⟨(some 24), .load 3 (.tmp 23), none⟩,
    ⟨(some 25), .binOp .lss 3 (.tmp 24) (.const (.int .i64 2000)) 3, none⟩] [0, 7, 8, 25])
  (.cond (.tmp 25) (.reg [⟨(some 26), .move (.tmp 7), none⟩,
    ⟨(some 27), .move (.tmp 0), none⟩,
    ⟨(some 28), .move (.tmp 8), none⟩,
    ⟨(some 29), .indexAddr 43 (.tmp 27) (.tmp 28), none⟩,
    ⟨(some 30), .fieldAddr 100 (.tmp 29) 1, none⟩,
    ⟨(some 31), .load 3 (.tmp 30), none⟩,
    ⟨(some 32), .binOp .add 3 (.tmp 31) (.const (.int .i64 1)) 3, none⟩,
    ⟨(some 33), .call ⟨.value (.func 163), #[(.tmp 26), (.tmp 32)], #[26, 3]⟩, none⟩,
    ⟨(some 7), .assign (.tmp 33), none⟩] [0, 7, 8])
  .skip)))
  (.reg [⟨(some 18), .move (.tmp 8), none⟩,
    ⟨(some 19), .binOp .add 3 (.tmp 18) (.const (.int .i64 1)) 3, none⟩,
    ⟨(some 8), .assign (.tmp 19), none⟩] [0, 7, 8])))
/-- loop.example/g01062/spec.l12Weights: number 152, params [0, 1, 2] -/
def spec_l12Weights_c : ACode := (.seq (.reg [⟨(some 6), .assign (.const (.slice none 0 0)), none⟩] [0, 1, 2])
  (.seq (.seq (.reg [⟨(some 9), .move (.tmp 2), none⟩,
    ⟨(some 10), .unOp .not 4 (.tmp 9), none⟩] [0, 1, 10])
  (.cond (.tmp 10) (.seq (.reg [⟨(some 11), .move (.tmp 1), none⟩,
    ⟨(some 12), .buildSlice 26 1 #[(0, (.tmp 11))], none⟩,
    ⟨(some 6), .assign (.tmp 12), none⟩] [6])
  .ret)
  .skip))
  (.seq (.reg [⟨(some 13), .buildSlice 26 1 #[(0, (.const (.int .i64 1)))], none⟩,
    ⟨(some 7), .assign (.tmp 13), none⟩] [0, 7])
  (.seq (.seq (.reg [⟨(some 8), .assign (.const (.int .i64 0)), none⟩] [0, 7, 8])
  (.block 0 (.loop spec_l12Weights_l0)))
  (.seq (.reg [⟨(some 34), .move (.tmp 7), none⟩,
    ⟨(some 6), .assign (.tmp 34), none⟩] [6])
  .ret)))))
theorem spec_l12Weights_k : fnOk Try.prog (fun _ => false) 152 = some (spec_l12Weights_c.strip, 35, [.tmp 6]) := by kernel_rfl
/-- cmp.isNaN[int]: number 153, params [0] -/
def cmp_isNaN_int__c : ACode := (.seq (.reg [⟨(some 2), .assign (.const (.bool false)), none⟩] [0])
  (.seq (.reg [⟨(some 3), .move (.tmp 0), none⟩,
    ⟨(some 4), .move (.tmp 0), none⟩,
    ⟨(some 5), .binOp .neq 3 (.tmp 3) (.tmp 4) 3, none⟩,
    ⟨(some 2), .assign (.tmp 5), none⟩] [2])
  .ret))
theorem cmp_isNaN_int__k : fnOk Try.prog (fun _ => false) 153 = some (cmp_isNaN_int__c.strip, 6, [.tmp 2]) := by kernel_rfl
/-- loop.example/g01062/spec.l1Least: number 158, params [0, 1] -/
def spec_l1Least_c : ACode := (.seq (.reg [⟨(some 4), .assign (.const (.int .i64 0)), none⟩] [0, 1])
  (.seq (.seq (.reg [⟨(some 5), .move (.tmp 0), none⟩,
    ⟨(some 6), .move (.tmp 1), none⟩,
    ⟨(some 7), .binOp .lss 3 (.tmp 5) (.tmp 6) 3, none⟩] [0, 1, 7])
  (.cond (.tmp 7) (.seq (.reg [⟨(some 8), .move (.tmp 0), none⟩,
    ⟨(some 4), .assign (.tmp 8), none⟩] [4])
  .ret)
  .skip))
  (.seq (.reg [⟨(some 9), .move (.tmp 1), none⟩,
    ⟨(some 4), .assign (.tmp 9), none⟩] [4])
  .ret)))
theorem spec_l1Least_k : fnOk Try.prog (fun _ => false) 158 = some (spec_l1Least_c.strip, 10, [.tmp 4]) := by kernel_rfl
/-- math/bits.OnesCount32: number 159, params [0] -/
def math_bits_OnesCount32_c : ACode := (.seq (.reg [⟨(some 2), .assign (.const (.int .i64 0)), none⟩] [0])
  (.seq (.regQ [⟨(some 3), .move (.tmp 0), none⟩,
    ⟨(some 4), .binOp .shr 157 (.tmp 3) (.const (.int .u64 24)) 142, none⟩,
    ⟨(some 5), .index 9 (.const (.string ⟨#[0, 1, 1, 2, 1, 2, 2, 3, 1, 2, 2, 3, 2, 3, 3, 4, 1, 2, 2, 3, 2, 3, 3, 4, 2, 3, 3, 4, 3, 4, 4, 5, 1, 2, 2, 3, 2, 3, 3, 4, 2, 3, 3, 4, 3, 4, 4, 5, 2, 3, 3, 4, 3, 4, 4, 5, 3, 4, 4, 5, 4, 5, 5, 6, 1, 2, 2, 3, 2, 3, 3, 4, 2, 3, 3, 4, 3, 4, 4, 5, 2, 3, 3, 4, 3, 4, 4, 5, 3, 4, 4, 5, 4, 5, 5, 6, 2, 3, 3, 4, 3, 4, 4, 5, 3, 4, 4, 5, 4, 5, 5, 6, 3, 4, 4, 5, 4, 5, 5, 6, 4, 5, 5, 6, 5, 6, 6, 7, 1, 2, 2, 3, 2, 3, 3, 4, 2, 3, 3, 4, 3, 4, 4, 5, 2, 3, 3, 4, 3, 4, 4, 5, 3, 4, 4, 5, 4, 5, 5, 6, 2, 3, 3, 4, 3, 4, 4, 5, 3, 4, 4, 5, 4, 5, 5, 6, 3, 4, 4, 5, 4, 5, 5, 6, 4, 5, 5, 6, 5, 6, 6, 7, 2, 3, 3, 4, 3, 4, 4, 5, 3, 4, 4, 5, 4, 5, 5, 6, 3, 4, 4, 5, 4, 5, 5, 6, 4, 5, 5, 6, 5, 6, 6, 7, 3, 4, 4, 5, 4, 5, 5, 6, 4, 5, 5, 6, 5, 6, 6, 7, 4, 5, 5, 6, 5, 6, 6, 7, 5, 6, 6, 7, 6, 7, 7, 8]⟩)) (.tmp 4), none⟩,
    ⟨(some 6), .move (.tmp 0), none⟩,
    ⟨(some 7), .binOp .shr 157 (.tmp 6) (.const (.int .u64 16)) 142, none⟩,
    ⟨(some 8), .binOp .and 157 (.tmp 7) (.const (.int .u32 255)) 157, none⟩,
    ⟨(some 9), .index 9 (.const (.string ⟨#[0, 1, 1, 2, 1, 2, 2, 3, 1, 2, 2, 3, 2, 3, 3, 4, 1, 2, 2, 3, 2, 3, 3, 4, 2, 3, 3, 4, 3, 4, 4, 5, 1, 2, 2, 3, 2, 3, 3, 4, 2, 3, 3, 4, 3, 4, 4, 5, 2, 3, 3, 4, 3, 4, 4, 5, 3, 4, 4, 5, 4, 5, 5, 6, 1, 2, 2, 3, 2, 3, 3, 4, 2, 3, 3, 4, 3, 4, 4, 5, 2, 3, 3, 4, 3, 4, 4, 5, 3, 4, 4, 5, 4, 5, 5, 6, 2, 3, 3, 4, 3, 4, 4, 5, 3, 4, 4, 5, 4, 5, 5, 6, 3, 4, 4, 5, 4, 5, 5, 6, 4, 5, 5, 6, 5, 6, 6, 7, 1, 2, 2, 3, 2, 3, 3, 4, 2, 3, 3, 4, 3, 4, 4, 5, 2, 3, 3, 4, 3, 4, 4, 5, 3, 4, 4, 5, 4, 5, 5, 6, 2, 3, 3, 4, 3, 4, 4, 5, 3, 4, 4, 5, 4, 5, 5, 6, 3, 4, 4, 5, 4, 5, 5, 6, 4, 5, 5, 6, 5, 6, 6, 7, 2, 3, 3, 4, 3, 4, 4, 5, 3, 4, 4, 5, 4, 5, 5, 6, 3, 4, 4, 5, 4, 5, 5, 6, 4, 5, 5, 6, 5, 6, 6, 7, 3, 4, 4, 5, 4, 5, 5, 6, 4, 5, 5, 6, 5, 6, 6, 7, 4, 5, 5, 6, 5, 6, 6, 7, 5, 6, 6, 7, 6, 7, 7, 8]⟩)) (.tmp 8), none⟩,
    ⟨(some 10), .binOp .add 5 (.tmp 5) (.tmp 9) 5, none⟩,
    ⟨(some 11), .move (.tmp 0), none⟩,
    ⟨(some 12), .binOp .shr 157 (.tmp 11) (.const (.int .u64 8)) 142, none⟩,
    ⟨(some 13), .binOp .and 157 (.tmp 12) (.const (.int .u32 255)) 157, none⟩,
    ⟨(some 14), .index 9 (.const (.string ⟨#[0, 1, 1, 2, 1, 2, 2, 3, 1, 2, 2, 3, 2, 3, 3, 4, 1, 2, 2, 3, 2, 3, 3, 4, 2, 3, 3, 4, 3, 4, 4, 5, 1, 2, 2, 3, 2, 3, 3, 4, 2, 3, 3, 4, 3, 4, 4, 5, 2, 3, 3, 4, 3, 4, 4, 5, 3, 4, 4, 5, 4, 5, 5, 6, 1, 2, 2, 3, 2, 3, 3, 4, 2, 3, 3, 4, 3, 4, 4, 5, 2, 3, 3, 4, 3, 4, 4, 5, 3, 4, 4, 5, 4, 5, 5, 6, 2, 3, 3, 4, 3, 4, 4, 5, 3, 4, 4, 5, 4, 5, 5, 6, 3, 4, 4, 5, 4, 5, 5, 6, 4, 5, 5, 6, 5, 6, 6, 7, 1, 2, 2, 3, 2, 3, 3, 4, 2, 3, 3, 4, 3, 4, 4, 5, 2, 3, 3, 4, 3, 4, 4, 5, 3, 4, 4, 5, 4, 5, 5, 6, 2, 3, 3, 4, 3, 4, 4, 5, 3, 4, 4, 5, 4, 5, 5, 6, 3, 4, 4, 5, 4, 5, 5, 6, 4, 5, 5, 6, 5, 6, 6, 7, 2, 3, 3, 4, 3, 4, 4, 5, 3, 4, 4, 5, 4, 5, 5, 6, 3, 4, 4, 5, 4, 5, 5, 6, 4, 5, 5, 6, 5, 6, 6, 7, 3, 4, 4, 5, 4, 5, 5, 6, 4, 5, 5, 6, 5, 6, 6, 7, 4, 5, 5, 6, 5, 6, 6, 7, 5, 6, 6, 7, 6, 7, 7, 8]⟩)) (.tmp 13), none⟩,
    ⟨(some 15), .binOp .add 5 (.tmp 10) (.tmp 14) 5, none⟩,
    ⟨(some 16), .move (.tmp 0), none⟩,
    ⟨(some 17), .binOp .and 157 (.tmp 16) (.const (.int .u32 255)) 157, none⟩,
    ⟨(some 18), .index 9 (.const (.string ⟨#[0, 1, 1, 2, 1, 2, 2, 3, 1, 2, 2, 3, 2, 3, 3, 4, 1, 2, 2, 3, 2, 3, 3, 4, 2, 3, 3, 4, 3, 4, 4, 5, 1, 2, 2, 3, 2, 3, 3, 4, 2, 3, 3, 4, 3, 4, 4, 5, 2, 3, 3, 4, 3, 4, 4, 5, 3, 4, 4, 5, 4, 5, 5, 6, 1, 2, 2, 3, 2, 3, 3, 4, 2, 3, 3, 4, 3, 4, 4, 5, 2, 3, 3, 4, 3, 4, 4, 5, 3, 4, 4, 5, 4, 5, 5, 6, 2, 3, 3, 4, 3, 4, 4, 5, 3, 4, 4, 5, 4, 5, 5, 6, 3, 4, 4, 5, 4, 5, 5, 6, 4, 5, 5, 6, 5, 6, 6, 7, 1, 2, 2, 3, 2, 3, 3, 4, 2, 3, 3, 4, 3, 4, 4, 5, 2, 3, 3, 4, 3, 4, 4, 5, 3, 4, 4, 5, 4, 5, 5, 6, 2, 3, 3, 4, 3, 4, 4, 5, 3, 4, 4, 5, 4, 5, 5, 6, 3, 4, 4, 5, 4, 5, 5, 6, 4, 5, 5, 6, 5, 6, 6, 7, 2, 3, 3, 4, 3, 4, 4, 5, 3, 4, 4, 5, 4, 5, 5, 6, 3, 4, 4, 5, 4, 5, 5, 6, 4, 5, 5, 6, 5, 6, 6, 7, 3, 4, 4, 5, 4, 5, 5, 6, 4, 5, 5, 6, 5, 6, 6, 7, 4, 5, 5, 6, 5, 6, 6, 7, 5, 6, 6, 7, 6, 7, 7, 8]⟩)) (.tmp 17), none⟩,
    ⟨(some 19), .binOp .add 5 (.tmp 15) (.tmp 18) 5, none⟩,
    ⟨(some 20), .convert 5 3 (.tmp 19), none⟩,
    ⟨(some 2), .assign (.tmp 20), none⟩] [2])
  .ret))
theorem math_bits_OnesCount32_k : fnOk Try.prog (fun _ => false) 159 = some (math_bits_OnesCount32_c.strip, 21, [.tmp 2]) := by kernel_rfl
/-- math/bits.OnesCount64: number 160, params [0] -/
def math_bits_OnesCount64_c : ACode := (.seq (.reg [⟨(some 2), .assign (.const (.int .i64 0)), none⟩] [0])
  (.seq (.reg [⟨(some 3), .move (.tmp 0), none⟩,
    ⟨(some 4), .binOp .shr 105 (.tmp 3) (.const (.int .u64 1)) 142, none⟩,
    ⟨(some 5), .binOp .and 105 (.tmp 4) (.const (.int .u64 6148914691236517205)) 105, none⟩,
    ⟨(some 6), .move (.tmp 0), none⟩,
    ⟨(some 7), .binOp .and 105 (.tmp 6) (.const (.int .u64 6148914691236517205)) 105, none⟩,
    ⟨(some 8), .binOp .add 105 (.tmp 5) (.tmp 7) 105, none⟩,
    ⟨(some 0), .assign (.tmp 8), none⟩] [0])
  (.seq (.reg [⟨(some 9), .move (.tmp 0), none⟩,
    ⟨(some 10), .binOp .shr 105 (.tmp 9) (.const (.int .u64 2)) 142, none⟩,
    ⟨(some 11), .binOp .and 105 (.tmp 10) (.const (.int .u64 3689348814741910323)) 105, none⟩,
    ⟨(some 12), .move (.tmp 0), none⟩,
    ⟨(some 13), .binOp .and 105 (.tmp 12) (.const (.int .u64 3689348814741910323)) 105, none⟩,
    ⟨(some 14), .binOp .add 105 (.tmp 11) (.tmp 13) 105, none⟩,
    ⟨(some 0), .assign (.tmp 14), none⟩] [0])
  (.seq (.reg [⟨(some 15), .move (.tmp 0), none⟩,
    ⟨(some 16), .binOp .shr 105 (.tmp 15) (.const (.int .u64 4)) 142, none⟩,
    ⟨(some 17), .move (.tmp 0), none⟩,
    ⟨(some 18), .binOp .add 105 (.tmp 16) (.tmp 17) 105, none⟩,
    ⟨(some 19), .binOp .and 105 (.tmp 18) (.const (.int .u64 1085102592571150095)) 105, none⟩,
    ⟨(some 0), .assign (.tmp 19), none⟩] [0])
  (.seq (.reg [⟨(some 20), .move (.tmp 0), none⟩,
    ⟨(some 21), .move (.tmp 0), none⟩,
    ⟨(some 22), .binOp .shr 105 (.tmp 21) (.const (.int .u64 8)) 142, none⟩,
    ⟨(some 23), .binOp .add 105 (.tmp 20) (.tmp 22) 105, none⟩,
    ⟨(some 0), .assign (.tmp 23), none⟩] [0])
  (.seq (.reg [⟨(some 24), .move (.tmp 0), none⟩,
    ⟨(some 25), .move (.tmp 0), none⟩,
    ⟨(some 26), .binOp .shr 105 (.tmp 25) (.const (.int .u64 16)) 142, none⟩,
    ⟨(some 27), .binOp .add 105 (.tmp 24) (.tmp 26) 105, none⟩,
    ⟨(some 0), .assign (.tmp 27), none⟩] [0])
  (.seq (.reg [⟨(some 28), .move (.tmp 0), none⟩,
    ⟨(some 29), .move (.tmp 0), none⟩,
    ⟨(some 30), .binOp .shr 105 (.tmp 29) (.const (.int .u64 32)) 142, none⟩,
    ⟨(some 31), .binOp .add 105 (.tmp 28) (.tmp 30) 105, none⟩,
    ⟨(some 0), .assign (.tmp 31), none⟩] [0])
  (.seq (.reg [⟨(some 32), .move (.tmp 0), none⟩,
    ⟨(some 33), .convert 105 3 (.tmp 32), none⟩,
    ⟨(some 34), .binOp .and 3 (.tmp 33) (.const (.int .i64 127)) 3, none⟩,
    ⟨(some 2), .assign (.tmp 34), none⟩] [2])
  .ret))))))))
theorem math_bits_OnesCount64_k : fnOk Try.prog (fun _ => false) 160 = some (math_bits_OnesCount64_c.strip, 35, [.tmp 2]) := by kernel_rfl
/-- math/bits.Len: number 162, params [0] -/
def math_bits_Len_c : ACode := (.seq (.reg [⟨(some 2), .assign (.const (.int .i64 0)), none⟩] [0])
  (.seq (.cond (.const (.bool false)) (.seq (.reg [⟨(some 3), .move (.tmp 0), none⟩,
    ⟨(some 4), .convert 142 157 (.tmp 3), none⟩,
    ⟨(some 5), .call ⟨.value (.func 176), #[(.tmp 4)], #[157]⟩, none⟩,
    ⟨(some 2), .assign (.tmp 5), none⟩] [2])
  .ret)
  .skip)
  (.seq (.reg [⟨(some 6), .move (.tmp 0), none⟩,
    ⟨(some 7), .call ⟨.value (.func 177), #[(.tmp 6)], #[105]⟩, none⟩,
    ⟨(some 2), .assign (.tmp 7), none⟩] [2])
  .ret)))
theorem math_bits_Len_k : fnOk Try.prog (fun _ => false) 162 = some (math_bits_Len_c.strip, 8, [.tmp 2]) := by kernel_rfl
/-- head: [0, 1, 5] -/
def spec_l1Put_l0 : ACode := (.seq (.seq (.reg [⟨(some 6), .move (.tmp 5), none⟩,
    ⟨(some 7), .move (.tmp 0), none⟩,
    ⟨(some 8), .call ⟨.builtin .len, #[(.tmp 7)], #[26]⟩, none⟩,
    ⟨(some 9), .binOp .lss 3 (.tmp 6) (.tmp 8) 3, none⟩,
    ⟨(some 10), .move (.tmp 9), none⟩,
    ⟨(some 11), .move (.tmp 0), (some (some 10, true))⟩,
    ⟨(some 12), .move (.tmp 5), (some (some 10, true))⟩,
    ⟨(some 13), .indexAddr 26 (.tmp 11) (.tmp 12), (some (some 10, true))⟩,
    ⟨(some 14), .load 3 (.tmp 13), (some (some 10, true))⟩,
    ⟨(some 15), .move (.tmp 1), (some (some 10, true))⟩,
    ⟨(some 16), .binOp .lss 3 (.tmp 14) (.tmp 15) 3, (some (some 10, true))⟩,
    ⟨(some 17), .pick (.tmp 10) (.tmp 16) (.const (.bool false)), none⟩] [0, 1, 5, 17])
  (.cond (.tmp 17) .skip
  (.exit 0)))
  (.block 1 (.reg [⟨(some 18), .move (.tmp 5), none⟩,
    ⟨(some 19), .binOp .add 3 (.tmp 18) (.const (.int .i64 1)) 3, none⟩,
    ⟨(some 5), .assign (.tmp 19), none⟩] [0, 1, 5])))
/-- loop.example/g01062/spec.l1Put: number 163, params [0, 1] -/
def spec_l1Put_c : ACode := (.seq (.reg [⟨(some 4), .assign (.const (.slice none 0 0)), none⟩] [0, 1])
  (.seq (.reg [⟨(some 5), .assign (.const (.int .i64 0)), none⟩] [0, 1, 5])
  (.seq (.block 0 (.loop spec_l1Put_l0))
  (.seq (.seq (.reg [⟨(some 20), .move (.tmp 5), none⟩,
    ⟨(some 21), .move (.tmp 0), none⟩,
    ⟨(some 22), .call ⟨.builtin .len, #[(.tmp 21)], #[26]⟩, none⟩,
    ⟨(some 23), .binOp .lss 3 (.tmp 20) (.tmp 22) 3, none⟩,
    ⟨(some 24), .move (.tmp 23), none⟩,
    ⟨(some 25), .move (.tmp 0), (some (some 24, true))⟩,
    ⟨(some 26), .move (.tmp 5), (some (some 24, true))⟩,
    ⟨(some 27), .indexAddr 26 (.tmp 25) (.tmp 26), (some (some 24, true))⟩,
    ⟨(some 28), .load 3 (.tmp 27), (some (some 24, true))⟩,
    ⟨(some 29), .move (.tmp 1), (some (some 24, true))⟩,
    ⟨(some 30), .binOp .eql 3 (.tmp 28) (.tmp 29) 3, (some (some 24, true))⟩,
    ⟨(some 31), .pick (.tmp 24) (.tmp 30) (.const (.bool false)), none⟩] [0, 1, 5, 31])
  (.cond (.tmp 31) (.seq (.reg [⟨(some 32), .move (.tmp 0), none⟩,
    ⟨(some 4), .assign (.tmp 32), none⟩] [4])
  .ret)
  .skip))
  (.seq (.regF []
    [34, 35, 36, 33, 38, 39, 41, 42, 43] [] [] []
    [⟨(some 34), .move (.tmp 0), none⟩,
    ⟨(some 35), .move (.tmp 5), none⟩,
    ⟨(some 36), .slice 26 (.tmp 34) none (some (.tmp 35)) none, none⟩,
    ⟨(some 33), .buildSlice 26 0 #[], none⟩,
    ⟨(some 37), .call ⟨.builtin .append, #[(.tmp 33), (.tmp 36)], #[26, 26]⟩, none⟩,
    ⟨(some 38), .move (.tmp 1), none⟩,
    ⟨(some 39), .buildSlice 26 1 #[(0, (.tmp 38))], none⟩,
    ⟨(some 40), .call ⟨.builtin .append, #[(.tmp 37), (.tmp 39)], #[26, 26]⟩, none⟩,
    ⟨(some 41), .move (.tmp 0), none⟩,
    ⟨(some 42), .move (.tmp 5), none⟩,
    ⟨(some 43), .slice 26 (.tmp 41) (some (.tmp 42)) none none, none⟩,
    ⟨(some 44), .call ⟨.builtin .append, #[(.tmp 40), (.tmp 43)], #[26, 26]⟩, none⟩,
    ⟨(some 4), .assign (.tmp 44), none⟩] [4])
  .ret)))))
theorem spec_l1Put_k : fnOk Try.prog (fun _ => false) 163 = some (spec_l1Put_c.strip, 45, [.tmp 4]) := by kernel_rfl
/-- math/bits.Mul: number 166, params [0, 1] -/
def math_bits_Mul_c : ACode := (.seq (.reg [⟨(some 4), .assign (.const (.int .u64 0)), none⟩,
    ⟨(some 5), .assign (.const (.int .u64 0)), none⟩] [0, 1])
  (.seq (.cond (.const (.bool false)) (.seq (.reg [⟨(some 11), .move (.tmp 0), none⟩,
    ⟨(some 12), .convert 142 157 (.tmp 11), none⟩,
    ⟨(some 13), .move (.tmp 1), none⟩,
    ⟨(some 14), .convert 142 157 (.tmp 13), none⟩,
    ⟨(some 15), .call ⟨.value (.func 180), #[(.tmp 12), (.tmp 14)], #[157, 157]⟩, none⟩,
    ⟨(some 10), .move (.tmp 15), none⟩,
    ⟨(some 16), .extract (.tmp 10) 0, none⟩,
    ⟨(some 17), .extract (.tmp 10) 1, none⟩,
    ⟨(some 6), .assign (.tmp 16), none⟩,
    ⟨(some 7), .assign (.tmp 17), none⟩] [6, 7])
  (.seq (.reg [⟨(some 18), .move (.tmp 6), none⟩,
    ⟨(some 19), .convert 157 142 (.tmp 18), none⟩,
    ⟨(some 20), .move (.tmp 7), none⟩,
    ⟨(some 21), .convert 157 142 (.tmp 20), none⟩,
    ⟨(some 4), .assign (.tmp 19), none⟩,
    ⟨(some 5), .assign (.tmp 21), none⟩] [4, 5])
  .ret))
  .skip)
  (.seq (.reg [⟨(some 23), .move (.tmp 0), none⟩,
    ⟨(some 24), .move (.tmp 1), none⟩,
    ⟨(some 25), .call ⟨.value (.func 181), #[(.tmp 23), (.tmp 24)], #[105, 105]⟩, none⟩,
    ⟨(some 22), .move (.tmp 25), none⟩,
    ⟨(some 26), .extract (.tmp 22) 0, none⟩,
    ⟨(some 27), .extract (.tmp 22) 1, none⟩,
    ⟨(some 8), .assign (.tmp 26), none⟩,
    ⟨(some 9), .assign (.tmp 27), none⟩] [8, 9])
  (.seq (.reg [⟨(some 28), .move (.tmp 8), none⟩,
    ⟨(some 29), .move (.tmp 9), none⟩,
    ⟨(some 4), .assign (.tmp 28), none⟩,
    ⟨(some 5), .assign (.tmp 29), none⟩] [4, 5])
  .ret))))
theorem math_bits_Mul_k : fnOk Try.prog (fun _ => false) 166 = some (math_bits_Mul_c.strip, 30, [.tmp 4, .tmp 5]) := by kernel_rfl
/-- cmp.Less[int]: number 173, params [0, 1] -/
def cmp_Less_int__c : ACode := (.seq (.reg [⟨(some 4), .assign (.const (.bool false)), none⟩] [0, 1])
  (.seq (.reg [⟨(some 5), .move (.tmp 0), none⟩,
    ⟨(some 6), .call ⟨.value (.func 153), #[(.tmp 5)], #[3]⟩, none⟩,
    ⟨(some 7), .move (.tmp 6), none⟩,
    ⟨(some 8), .move (.tmp 1), (some (some 7, true))⟩,
    ⟨(some 9), .call ⟨.value (.func 153), #[(.tmp 8)], #[3]⟩, (some (some 7, true))⟩,
    ⟨(some 10), .unOp .not 4 (.tmp 9), (some (some 7, true))⟩,
    ⟨(some 11), .pick (.tmp 7) (.tmp 10) (.const (.bool false)), none⟩,
    ⟨(some 12), .move (.tmp 11), none⟩,
    ⟨(some 13), .move (.tmp 0), (some (some 12, false))⟩,
    ⟨(some 14), .move (.tmp 1), (some (some 12, false))⟩,
    ⟨(some 15), .binOp .lss 3 (.tmp 13) (.tmp 14) 3, (some (some 12, false))⟩,
    ⟨(some 16), .pick (.tmp 12) (.const (.bool true)) (.tmp 15), none⟩,
    ⟨(some 4), .assign (.tmp 16), none⟩] [4])
  .ret))
theorem cmp_Less_int__k : fnOk Try.prog (fun _ => false) 173 = some (cmp_Less_int__c.strip, 17, [.tmp 4]) := by kernel_rfl
/-- math/bits.Len32: number 176, params [0] -/
def math_bits_Len32_c : ACode := (.seq (.reg [⟨(some 2), .assign (.const (.int .i64 0)), none⟩] [0, 2])
  (.seq (.seq (.reg [⟨(some 3), .move (.tmp 0), none⟩,
    ⟨(some 4), .binOp .geq 157 (.tmp 3) (.const (.int .u32 65536)) 157, none⟩] [0, 2, 4])
  (.cond (.tmp 4) (.seq (.reg [⟨(some 5), .move (.tmp 0), none⟩,
    ⟨(some 6), .binOp .shr 157 (.tmp 5) (.const (.int .u64 16)) 142, none⟩,
    ⟨(some 0), .assign (.tmp 6), none⟩] [0])
  (.reg [⟨(some 2), .assign (.const (.int .i64 16)), none⟩] [0, 2]))
  .skip))
  (.seq (.seq (.reg [⟨(some 7), .move (.tmp 0), none⟩,
    ⟨(some 8), .binOp .geq 157 (.tmp 7) (.const (.int .u32 256)) 157, none⟩] [0, 2, 8])
  (.cond (.tmp 8) (.seq (.reg [⟨(some 9), .move (.tmp 0), none⟩,
    ⟨(some 10), .binOp .shr 157 (.tmp 9) (.const (.int .u64 8)) 142, none⟩,
    ⟨(some 0), .assign (.tmp 10), none⟩] [0, 2])
  (.reg [⟨(some 11), .move (.tmp 2), none⟩,
    ⟨(some 12), .binOp .add 3 (.tmp 11) (.const (.int .i64 8)) 3, none⟩,
    ⟨(some 2), .assign (.tmp 12), none⟩] [0, 2]))
  .skip))
  (.seq (.reg [⟨(some 13), .move (.tmp 2), none⟩,
    ⟨(some 14), .move (.tmp 0), none⟩,
    ⟨(some 15), .convert 157 5 (.tmp 14), none⟩,
    ⟨(some 16), .index 9 (.const (.string ⟨#[0, 1, 2, 2, 3, 3, 3, 3, 4, 4, 4, 4, 4, 4, 4, 4, 5, 5, 5, 5, 5, 5, 5, 5, 5, 5, 5, 5, 5, 5, 5, 5, 6, 6, 6, 6, 6, 6, 6, 6, 6, 6, 6, 6, 6, 6, 6, 6, 6, 6, 6, 6, 6, 6, 6, 6, 6, 6, 6, 6, 6, 6, 6, 6, 7, 7, 7, 7, 7, 7, 7, 7, 7, 7, 7, 7, 7, 7, 7, 7, 7, 7, 7, 7, 7, 7, 7, 7, 7, 7, 7, 7, 7, 7, 7, 7, 7, 7, 7, 7, 7, 7, 7, 7, 7, 7, 7, 7, 7, 7, 7, 7, 7, 7, 7, 7, 7, 7, 7, 7, 7, 7, 7, 7, 7, 7, 7, 7, 8, 8, 8, 8, 8, 8, 8, 8, 8, 8, 8, 8, 8, 8, 8, 8, 8, 8, 8, 8, 8, 8, 8, 8, 8, 8, 8, 8, 8, 8, 8, 8, 8, 8, 8, 8, 8, 8, 8, 8, 8, 8, 8, 8, 8, 8, 8, 8, 8, 8, 8, 8, 8, 8, 8, 8, 8, 8, 8, 8, 8, 8, 8, 8, 8, 8, 8, 8, 8, 8, 8, 8, 8, 8, 8, 8, 8, 8, 8, 8, 8, 8, 8, 8, 8, 8, 8, 8, 8, 8, 8, 8, 8, 8, 8, 8, 8, 8, 8, 8, 8, 8, 8, 8, 8, 8, 8, 8, 8, 8, 8, 8, 8, 8, 8, 8, 8, 8, 8, 8, 8, 8, 8, 8, 8, 8, 8, 8]⟩)) (.tmp 15), none⟩,
    ⟨(some 17), .convert 5 3 (.tmp 16), none⟩,
    ⟨(some 18), .binOp .add 3 (.tmp 13) (.tmp 17) 3, none⟩,
    ⟨(some 2), .assign (.tmp 18), none⟩] [2])
  .ret))))
theorem math_bits_Len32_k : fnOk Try.prog (fun _ => false) 176 = some (math_bits_Len32_c.strip, 19, [.tmp 2]) := by kernel_rfl
/-- math/bits.Len64: number 177, params [0] -/
def math_bits_Len64_c : ACode := (.seq (.reg [⟨(some 2), .assign (.const (.int .i64 0)), none⟩] [0, 2])
  (.seq (.seq (.reg [⟨(some 3), .move (.tmp 0), none⟩,
    ⟨(some 4), .binOp .geq 105 (.tmp 3) (.const (.int .u64 4294967296)) 105, none⟩] [0, 2, 4])
  (.cond (.tmp 4) (.seq (.reg [⟨(some 5), .move (.tmp 0), none⟩,
    ⟨(some 6), .binOp .shr 105 (.tmp 5) (.const (.int .u64 32)) 142, none⟩,
    ⟨(some 0), .assign (.tmp 6), none⟩] [0])
  (.reg [⟨(some 2), .assign (.const (.int .i64 32)), none⟩] [0, 2]))
  .skip))
  (.seq (.seq (.reg [⟨(some 7), .move (.tmp 0), none⟩,
    ⟨(some 8), .binOp .geq 105 (.tmp 7) (.const (.int .u64 65536)) 105, none⟩] [0, 2, 8])
  (.cond (.tmp 8) (.seq (.reg [⟨(some 9), .move (.tmp 0), none⟩,
    ⟨(some 10), .binOp .shr 105 (.tmp 9) (.const (.int .u64 16)) 142, none⟩,
    ⟨(some 0), .assign (.tmp 10), none⟩] [0, 2])
  (.reg [⟨(some 11), .move (.tmp 2), none⟩,
    ⟨(some 12), .binOp .add 3 (.tmp 11) (.const (.int .i64 16)) 3, none⟩,
    ⟨(some 2), .assign (.tmp 12), none⟩] [0, 2]))
  .skip))
  (.seq (.seq (.reg [⟨(some 13), .move (.tmp 0), none⟩,
    ⟨(some 14), .binOp .geq 105 (.tmp 13) (.const (.int .u64 256)) 105, none⟩] [0, 2, 14])
  (.cond (.tmp 14) (.seq (.reg [⟨(some 15), .move (.tmp 0), none⟩,
    ⟨(some 16), .binOp .shr 105 (.tmp 15) (.const (.int .u64 8)) 142, none⟩,
    ⟨(some 0), .assign (.tmp 16), none⟩] [0, 2])
  (.reg [⟨(some 17), .move (.tmp 2), none⟩,
    ⟨(some 18), .binOp .add 3 (.tmp 17) (.const (.int .i64 8)) 3, none⟩,
    ⟨(some 2), .assign (.tmp 18), none⟩] [0, 2]))
  .skip))
  (.seq (.reg [⟨(some 19), .move (.tmp 2), none⟩,
    ⟨(some 20), .move (.tmp 0), none⟩,
    ⟨(some 21), .convert 105 5 (.tmp 20), none⟩,
    ⟨(some 22), .index 9 (.const (.string ⟨#[0, 1, 2, 2, 3, 3, 3, 3, 4, 4, 4, 4, 4, 4, 4, 4, 5, 5, 5, 5, 5, 5, 5, 5, 5, 5, 5, 5, 5, 5, 5, 5, 6, 6, 6, 6, 6, 6, 6, 6, 6, 6, 6, 6, 6, 6, 6, 6, 6, 6, 6, 6, 6, 6, 6, 6, 6, 6, 6, 6, 6, 6, 6, 6, 7, 7, 7, 7, 7, 7, 7, 7, 7, 7, 7, 7, 7, 7, 7, 7, 7, 7, 7, 7, 7, 7, 7, 7, 7, 7, 7, 7, 7, 7, 7, 7, 7, 7, 7, 7, 7, 7, 7, 7, 7, 7, 7, 7, 7, 7, 7, 7, 7, 7, 7, 7, 7, 7, 7, 7, 7, 7, 7, 7, 7, 7, 7, 7, 8, 8, 8, 8, 8, 8, 8, 8, 8, 8, 8, 8, 8, 8, 8, 8, 8, 8, 8, 8, 8, 8, 8, 8, 8, 8, 8, 8, 8, 8, 8, 8, 8, 8, 8, 8, 8, 8, 8, 8, 8, 8, 8, 8, 8, 8, 8, 8, 8, 8, 8, 8, 8, 8, 8, 8, 8, 8, 8, 8, 8, 8, 8, 8, 8, 8, 8, 8, 8, 8, 8, 8, 8, 8, 8, 8, 8, 8, 8, 8, 8, 8, 8, 8, 8, 8, 8, 8, 8, 8, 8, 8, 8, 8, 8, 8, 8, 8, 8, 8, 8, 8, 8, 8, 8, 8, 8, 8, 8, 8, 8, 8, 8, 8, 8, 8, 8, 8, 8, 8, 8, 8, 8, 8, 8, 8, 8, 8]⟩)) (.tmp 21), none⟩,
    ⟨(some 23), .convert 5 3 (.tmp 22), none⟩,
    ⟨(some 24), .binOp .add 3 (.tmp 19) (.tmp 23) 3, none⟩,
    ⟨(some 2), .assign (.tmp 24), none⟩] [2])
  .ret)))))
theorem math_bits_Len64_k : fnOk Try.prog (fun _ => false) 177 = some (math_bits_Len64_c.strip, 25, [.tmp 2]) := by kernel_rfl
/-- math/bits.Mul32: number 180, params [0, 1] -/
def math_bits_Mul32_c : ACode := (.seq (.reg [⟨(some 4), .assign (.const (.int .u32 0)), none⟩,
    ⟨(some 5), .assign (.const (.int .u32 0)), none⟩] [0, 1])
  (.seq (.reg [⟨(some 7), .move (.tmp 0), none⟩,
    ⟨(some 8), .convert 157 105 (.tmp 7), none⟩,
    ⟨(some 9), .move (.tmp 1), none⟩,
    ⟨(some 10), .convert 157 105 (.tmp 9), none⟩,
    ⟨(some 11), .binOp .mul 105 (.tmp 8) (.tmp 10) 105, none⟩,
    ⟨(some 6), .assign (.tmp 11), none⟩] [6])
  (.seq (.reg [⟨(some 12), .move (.tmp 6), none⟩,
    ⟨(some 13), .binOp .shr 105 (.tmp 12) (.const (.int .u64 32)) 142, none⟩,
    ⟨(some 14), .convert 105 157 (.tmp 13), none⟩,
    ⟨(some 15), .move (.tmp 6), none⟩,
    ⟨(some 16), .convert 105 157 (.tmp 15), none⟩,
    ⟨(some 4), .assign (.tmp 14), none⟩,
    ⟨(some 5), .assign (.tmp 16), none⟩] [4, 5])
  .ret)))
theorem math_bits_Mul32_k : fnOk Try.prog (fun _ => false) 180 = some (math_bits_Mul32_c.strip, 17, [.tmp 4, .tmp 5]) := by kernel_rfl
/-- math/bits.Mul64: number 181, params [0, 1] -/
def math_bits_Mul64_c : ACode := (.seq (.reg [⟨(some 4), .assign (.const (.int .u64 0)), none⟩,
    ⟨(some 5), .assign (.const (.int .u64 0)), none⟩] [0, 1])
  (.seq (.reg [⟨(some 14), .move (.tmp 0), none⟩,
    ⟨(some 15), .binOp .and 105 (.tmp 14) (.const (.int .u64 4294967295)) 105, none⟩,
    ⟨(some 6), .assign (.tmp 15), none⟩] [0, 1, 6])
  (.seq (.reg [⟨(some 16), .move (.tmp 0), none⟩,
    ⟨(some 17), .binOp .shr 105 (.tmp 16) (.const (.int .u64 32)) 142, none⟩,
    ⟨(some 7), .assign (.tmp 17), none⟩] [0, 1, 6, 7])
  (.seq (.reg [⟨(some 18), .move (.tmp 1), none⟩,
    ⟨(some 19), .binOp .and 105 (.tmp 18) (.const (.int .u64 4294967295)) 105, none⟩,
    ⟨(some 8), .assign (.tmp 19), none⟩] [0, 1, 6, 7, 8])
  (.seq (.reg [⟨(some 20), .move (.tmp 1), none⟩,
    ⟨(some 21), .binOp .shr 105 (.tmp 20) (.const (.int .u64 32)) 142, none⟩,
    ⟨(some 9), .assign (.tmp 21), none⟩] [0, 1, 6, 7, 8, 9])
  (.seq (.reg [⟨(some 22), .move (.tmp 6), none⟩,
    ⟨(some 23), .move (.tmp 8), none⟩,
    ⟨(some 24), .binOp .mul 105 (.tmp 22) (.tmp 23) 105, none⟩,
    ⟨(some 10), .assign (.tmp 24), none⟩] [0, 1, 6, 7, 8, 9, 10])
  (.seq (.reg [⟨(some 25), .move (.tmp 7), none⟩,
    ⟨(some 26), .move (.tmp 8), none⟩,
    ⟨(some 27), .binOp .mul 105 (.tmp 25) (.tmp 26) 105, none⟩,
    ⟨(some 28), .move (.tmp 10), none⟩,
    ⟨(some 29), .binOp .shr 105 (.tmp 28) (.const (.int .u64 32)) 142, none⟩,
    ⟨(some 30), .binOp .add 105 (.tmp 27) (.tmp 29) 105, none⟩,
    ⟨(some 11), .assign (.tmp 30), none⟩] [0, 1, 6, 7, 9, 11])
  (.seq (.reg [⟨(some 31), .move (.tmp 11), none⟩,
    ⟨(some 32), .binOp .and 105 (.tmp 31) (.const (.int .u64 4294967295)) 105, none⟩,
    ⟨(some 12), .assign (.tmp 32), none⟩] [0, 1, 6, 7, 9, 11, 12])
  (.seq (.reg [⟨(some 33), .move (.tmp 11), none⟩,
    ⟨(some 34), .binOp .shr 105 (.tmp 33) (.const (.int .u64 32)) 142, none⟩,
    ⟨(some 13), .assign (.tmp 34), none⟩] [0, 1, 6, 7, 9, 12, 13])
  (.seq (.reg [⟨(some 35), .move (.tmp 12), none⟩,
    ⟨(some 36), .move (.tmp 6), none⟩,
    ⟨(some 37), .move (.tmp 9), none⟩,
    ⟨(some 38), .binOp .mul 105 (.tmp 36) (.tmp 37) 105, none⟩,
    ⟨(some 39), .binOp .add 105 (.tmp 35) (.tmp 38) 105, none⟩,
    ⟨(some 12), .assign (.tmp 39), none⟩] [0, 1, 7, 9, 12, 13])
  (.seq (.reg [⟨(some 40), .move (.tmp 7), none⟩,
    ⟨(some 41), .move (.tmp 9), none⟩,
    ⟨(some 42), .binOp .mul 105 (.tmp 40) (.tmp 41) 105, none⟩,
    ⟨(some 43), .move (.tmp 13), none⟩,
    ⟨(some 44), .binOp .add 105 (.tmp 42) (.tmp 43) 105, none⟩,
    ⟨(some 45), .move (.tmp 12), none⟩,
    ⟨(some 46), .binOp .shr 105 (.tmp 45) (.const (.int .u64 32)) 142, none⟩,
    ⟨(some 47), .binOp .add 105 (.tmp 44) (.tmp 46) 105, none⟩,
    ⟨(some 4), .assign (.tmp 47), none⟩] [0, 1, 4])
  (.seq (.reg [⟨(some 48), .move (.tmp 0), none⟩,
    ⟨(some 49), .move (.tmp 1), none⟩,
    ⟨(some 50), .binOp .mul 105 (.tmp 48) (.tmp 49) 105, none⟩,
    ⟨(some 5), .assign (.tmp 50), none⟩] [4, 5])
  .ret))))))))))))
theorem math_bits_Mul64_k : fnOk Try.prog (fun _ => false) 181 = some (math_bits_Mul64_c.strip, 51, [.tmp 4, .tmp 5]) := by kernel_rfl
end Go.Proofs.Ytjbedbfgbmfdfaa
