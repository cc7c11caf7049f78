/- Printed by a program of ours: the functions' abstract code and facts on their types. -/
import Derived.Test.YtnbjiigcldmgoaaAbsP
import Derived.Test.YtnbjiigcldmgoaaProg
import Derived.KernelRfl
set_option maxRecDepth 8000
namespace Go.Proofs.Ytnbjiigcldmgoaa
open Go Go.RowKit
@[simp] theorem dk_3 : dK Try.prog 3 = some (.int .i64) := by kernel_rfl
@[simp] theorem ty_3 : tyK Try.prog 3 = some .cell := by kernel_rfl
@[simp] theorem zero_3 : zeroK Try.prog 3 = some [.int .i64 0] := by kernel_rfl
@[simp] theorem dk_4 : dK Try.prog 4 = some .bool := by kernel_rfl
@[simp] theorem ty_4 : tyK Try.prog 4 = some .cell := by kernel_rfl
@[simp] theorem zero_4 : zeroK Try.prog 4 = some [.bool false] := by kernel_rfl
@[simp] theorem dk_5 : dK Try.prog 5 = some (.int .u8) := by kernel_rfl
@[simp] theorem ty_5 : tyK Try.prog 5 = some .cell := by kernel_rfl
@[simp] theorem zero_5 : zeroK Try.prog 5 = some [.int .u8 0] := by kernel_rfl
@[simp] theorem dk_9 : dK Try.prog 9 = some .str := by kernel_rfl
@[simp] theorem ty_9 : tyK Try.prog 9 = some .cell := by kernel_rfl
@[simp] theorem zero_9 : zeroK Try.prog 9 = some [.str []] := by kernel_rfl
@[simp] theorem sl_22 : slK Try.prog 22 = some (62, 4, 56) := by kernel_rfl
@[simp] theorem dk_22 : dK Try.prog 22 = some .slc := by kernel_rfl
@[simp] theorem ty_22 : tyK Try.prog 22 = some .cell := by kernel_rfl
@[simp] theorem zero_22 : zeroK Try.prog 22 = some [.nils] := by kernel_rfl
@[simp] theorem sl_25 : slK Try.prog 25 = some (63, 4, 56) := by kernel_rfl
@[simp] theorem dk_25 : dK Try.prog 25 = some .slc := by kernel_rfl
@[simp] theorem ty_25 : tyK Try.prog 25 = some .cell := by kernel_rfl
@[simp] theorem zero_25 : zeroK Try.prog 25 = some [.nils] := by kernel_rfl
@[simp] theorem sl_34 : slK Try.prog 34 = some (3, 1, 8) := by kernel_rfl
@[simp] theorem dk_34 : dK Try.prog 34 = some .slc := by kernel_rfl
@[simp] theorem ty_34 : tyK Try.prog 34 = some .cell := by kernel_rfl
@[simp] theorem zero_34 : zeroK Try.prog 34 = some [.nils] := by kernel_rfl
@[simp] theorem sl_47 : slK Try.prog 47 = some (34, 1, 24) := by kernel_rfl
@[simp] theorem dk_47 : dK Try.prog 47 = some .slc := by kernel_rfl
@[simp] theorem ty_47 : tyK Try.prog 47 = some .cell := by kernel_rfl
@[simp] theorem zero_47 : zeroK Try.prog 47 = some [.nils] := by kernel_rfl
@[simp] theorem sl_53 : slK Try.prog 53 = some (5, 1, 1) := by kernel_rfl
@[simp] theorem dk_53 : dK Try.prog 53 = some (.bytes 5) := by kernel_rfl
@[simp] theorem ty_53 : tyK Try.prog 53 = some .cell := by kernel_rfl
@[simp] theorem zero_53 : zeroK Try.prog 53 = some [.nils] := by kernel_rfl
@[simp] theorem ty_62 : tyK Try.prog 62 = some (.obj 4) := by kernel_rfl
@[simp] theorem fld_62_0 : fldK Try.prog 62 0 = some 0 := by kernel_rfl
@[simp] theorem fld_62_1 : fldK Try.prog 62 1 = some 1 := by kernel_rfl
@[simp] theorem fld_62_2 : fldK Try.prog 62 2 = some 2 := by kernel_rfl
@[simp] theorem fld_62_3 : fldK Try.prog 62 3 = some 3 := by kernel_rfl
@[simp] theorem pl_62 : plK Try.prog 62 = some (some [(0, 1), (1, 1), (2, 1), (3, 1)]) := by kernel_rfl
@[simp] theorem zero_62 : zeroK Try.prog 62 = some [.int .i64 0, .int .i64 0, .str [], .nils] := by kernel_rfl
@[simp] theorem ty_63 : tyK Try.prog 63 = some (.obj 4) := by kernel_rfl
@[simp] theorem fld_63_0 : fldK Try.prog 63 0 = some 0 := by kernel_rfl
@[simp] theorem fld_63_1 : fldK Try.prog 63 1 = some 1 := by kernel_rfl
@[simp] theorem fld_63_2 : fldK Try.prog 63 2 = some 2 := by kernel_rfl
@[simp] theorem fld_63_3 : fldK Try.prog 63 3 = some 3 := by kernel_rfl
@[simp] theorem pl_63 : plK Try.prog 63 = some (some [(0, 1), (1, 1), (2, 1), (3, 1)]) := by kernel_rfl
@[simp] theorem zero_63 : zeroK Try.prog 63 = some [.int .i64 0, .int .i64 0, .str [], .nils] := by kernel_rfl
@[simp] theorem sl_88 : slK Try.prog 88 = some (4, 1, 1) := by kernel_rfl
@[simp] theorem dk_88 : dK Try.prog 88 = some .slc := by kernel_rfl
@[simp] theorem ty_88 : tyK Try.prog 88 = some .cell := by kernel_rfl
@[simp] theorem zero_88 : zeroK Try.prog 88 = some [.nils] := by kernel_rfl
@[simp] theorem dk_91 : dK Try.prog 91 = some (.int .u64) := by kernel_rfl
@[simp] theorem ty_91 : tyK Try.prog 91 = some .cell := by kernel_rfl
@[simp] theorem zero_91 : zeroK Try.prog 91 = some [.int .u64 0] := by kernel_rfl
@[simp] theorem dk_116 : dK Try.prog 116 = some (.int .u64) := by kernel_rfl
@[simp] theorem ty_116 : tyK Try.prog 116 = some .cell := by kernel_rfl
@[simp] theorem zero_116 : zeroK Try.prog 116 = some [.int .u64 0] := by kernel_rfl
/-- loop.example/g01062/laws.FnExactAreSightings: number 3, params [0] -/
def laws_FnExactAreSightings_c : ACode := (.seq (.reg [⟨(some 2), .assign (.const (.bool false)), none⟩] [0])
  (.seq (.reg [⟨(some 3), .assign (.const (.int .i64 1048576)), none⟩] [0, 3])
  (.seq (.reg [⟨(some 7), .move (.tmp 0), none⟩,
    ⟨(some 8), .move (.tmp 3), none⟩,
    ⟨(some 9), .call ⟨.value (.func 14), #[(.tmp 7), (.tmp 8)], #[22, 3]⟩, none⟩,
    ⟨(some 3), .assign (.tmp 9), none⟩] [0, 3])
  (.seq (.seq (.reg [⟨(some 10), .move (.tmp 3), none⟩,
    ⟨(some 11), .binOp .lss 3 (.tmp 10) (.const (.int .i64 0)) 3, none⟩] [0, 11])
  (.cond (.tmp 11) (.seq (.reg [⟨(some 2), .assign (.const (.bool true)), none⟩] [2])
  .ret)
  .skip))
  (.seq (.reg [⟨(some 12), .move (.tmp 0), none⟩,
    ⟨(some 13), .call ⟨.value (.func 16), #[(.tmp 12)], #[22]⟩, none⟩,
    ⟨(some 14), .call ⟨.value (.func 15), #[(.tmp 13)], #[25]⟩, none⟩,
    ⟨(some 4), .assign (.tmp 14), none⟩] [0, 4])
  (.seq (.reg [⟨(some 15), .move (.tmp 0), none⟩,
    ⟨(some 16), .call ⟨.value (.func 16), #[(.tmp 15)], #[22]⟩, none⟩,
    ⟨(some 5), .assign (.tmp 16), none⟩] [0, 4, 5])
  (.seq (.reg [⟨(some 17), .move (.tmp 5), none⟩,
    ⟨(some 18), .call ⟨.value (.func 17), #[(.tmp 17)], #[25]⟩, none⟩,
    ⟨(some 6), .assign (.tmp 18), none⟩] [0, 4, 5, 6])
  (.seq (.seq (.reg [⟨(some 19), .move (.tmp 6), none⟩,
    ⟨(some 20), .move (.tmp 4), none⟩,
    ⟨(some 21), .binOp .neq 4 (.tmp 19) (.tmp 20) 4, none⟩] [0, 5, 21])
  (.cond (.tmp 21) (.seq (.reg [⟨(some 2), .assign (.const (.bool false)), none⟩] [2])
  .ret)
  .skip))
  (.seq (.seq (.reg [⟨(some 22), .move (.tmp 5), none⟩,
    ⟨(some 23), .move (.tmp 0), none⟩,
    ⟨(some 24), .call ⟨.value (.func 16), #[(.tmp 23)], #[22]⟩, none⟩,
    ⟨(some 25), .call ⟨.value (.func 18), #[(.tmp 22), (.tmp 24)], #[25, 25]⟩, none⟩,
    ⟨(some 26), .unOp .not 4 (.tmp 25), none⟩] [26])
  (.cond (.tmp 26) (.seq (.reg [⟨(some 2), .assign (.const (.bool false)), none⟩] [2])
  .ret)
  .skip))
  (.seq (.reg [⟨(some 2), .assign (.const (.bool true)), none⟩] [2])
  .ret))))))))))
theorem laws_FnExactAreSightings_k : fnOk Try.prog (fun _ => false) 3 = some (laws_FnExactAreSightings_c.strip, 27, [.tmp 2]) := by kernel_rfl
/-- loop.example/g01062/laws.FnExactStrongestPair: number 4, params [0] -/
def laws_FnExactStrongestPair_c : ACode := (.seq (.reg [⟨(some 2), .assign (.const (.bool false)), none⟩] [0])
  (.seq (.reg [⟨(some 3), .assign (.const (.int .i64 1048576)), none⟩] [0, 3])
  (.seq (.reg [⟨(some 13), .move (.tmp 0), none⟩,
    ⟨(some 14), .move (.tmp 3), none⟩,
    ⟨(some 15), .call ⟨.value (.func 14), #[(.tmp 13), (.tmp 14)], #[22, 3]⟩, none⟩,
    ⟨(some 3), .assign (.tmp 15), none⟩] [0, 3])
  (.seq (.seq (.reg [⟨(some 16), .move (.tmp 3), none⟩,
    ⟨(some 17), .binOp .lss 3 (.tmp 16) (.const (.int .i64 0)) 3, none⟩] [0, 17])
  (.cond (.tmp 17) (.seq (.reg [⟨(some 2), .assign (.const (.bool true)), none⟩] [2])
  .ret)
  .skip))
  (.seq (.reg [⟨(some 19), .move (.tmp 0), none⟩,
    ⟨(some 20), .call ⟨.value (.func 16), #[(.tmp 19)], #[22]⟩, none⟩,
    ⟨(some 21), .call ⟨.value (.func 19), #[(.tmp 20)], #[25]⟩, none⟩,
    ⟨(some 18), .move (.tmp 21), none⟩,
    ⟨(some 22), .extract (.tmp 18) 0, none⟩,
    ⟨(some 23), .extract (.tmp 18) 1, none⟩,
    ⟨(some 24), .extract (.tmp 18) 2, none⟩,
    ⟨(some 25), .extract (.tmp 18) 3, none⟩,
    ⟨(some 4), .assign (.tmp 22), none⟩,
    ⟨(some 5), .assign (.tmp 23), none⟩,
    ⟨(some 6), .assign (.tmp 24), none⟩,
    ⟨(some 7), .assign (.tmp 25), none⟩] [0, 4, 5, 6, 7])
  (.seq (.reg [⟨(some 26), .move (.tmp 0), none⟩,
    ⟨(some 27), .call ⟨.value (.func 16), #[(.tmp 26)], #[22]⟩, none⟩,
    ⟨(some 8), .assign (.tmp 27), none⟩] [0, 4, 5, 6, 7, 8])
  (.seq (.reg [⟨(some 29), .move (.tmp 8), none⟩,
    ⟨(some 30), .call ⟨.value (.func 20), #[(.tmp 29)], #[25]⟩, none⟩,
    ⟨(some 28), .move (.tmp 30), none⟩,
    ⟨(some 31), .extract (.tmp 28) 0, none⟩,
    ⟨(some 32), .extract (.tmp 28) 1, none⟩,
    ⟨(some 33), .extract (.tmp 28) 2, none⟩,
    ⟨(some 34), .extract (.tmp 28) 3, none⟩,
    ⟨(some 9), .assign (.tmp 31), none⟩,
    ⟨(some 10), .assign (.tmp 32), none⟩,
    ⟨(some 11), .assign (.tmp 33), none⟩,
    ⟨(some 12), .assign (.tmp 34), none⟩] [0, 4, 5, 6, 7, 8, 9, 10, 11, 12])
  (.seq (.seq (.reg [⟨(some 35), .move (.tmp 9), none⟩,
    ⟨(some 36), .move (.tmp 4), none⟩,
    ⟨(some 37), .binOp .neq 3 (.tmp 35) (.tmp 36) 3, none⟩,
    ⟨(some 38), .move (.tmp 37), none⟩,
    ⟨(some 39), .move (.tmp 10), (some (some 38, false))⟩,
    ⟨(some 40), .move (.tmp 5), (some (some 38, false))⟩,
    ⟨(some 41), .binOp .neq 3 (.tmp 39) (.tmp 40) 3, (some (some 38, false))⟩,
    ⟨(some 42), .pick (.tmp 38) (.const (.bool true)) (.tmp 41), none⟩,
    ⟨(some 43), .move (.tmp 42), none⟩,
    ⟨(some 44), .move (.tmp 11), (some (some 43, false))⟩,
    ⟨(some 45), .move (.tmp 6), (some (some 43, false))⟩,
    ⟨(some 46), .binOp .neq 3 (.tmp 44) (.tmp 45) 3, (some (some 43, false))⟩,
    ⟨(some 47), .pick (.tmp 43) (.const (.bool true)) (.tmp 46), none⟩,
    ⟨(some 48), .move (.tmp 47), none⟩,
    ⟨(some 49), .move (.tmp 12), (some (some 48, false))⟩,
    ⟨(some 50), .move (.tmp 7), (some (some 48, false))⟩,
    ⟨(some 51), .binOp .neq 4 (.tmp 49) (.tmp 50) 4, (some (some 48, false))⟩,
    ⟨(some 52), .pick (.tmp 48) (.const (.bool true)) (.tmp 51), none⟩] [0, 8, 52])
  (.cond (.tmp 52) (.seq (.reg [⟨(some 2), .assign (.const (.bool false)), none⟩] [2])
  .ret)
  .skip))
  (.seq (.seq (.reg [⟨(some 53), .move (.tmp 8), none⟩,
    ⟨(some 54), .move (.tmp 0), none⟩,
    ⟨(some 55), .call ⟨.value (.func 16), #[(.tmp 54)], #[22]⟩, none⟩,
    ⟨(some 56), .call ⟨.value (.func 18), #[(.tmp 53), (.tmp 55)], #[25, 25]⟩, none⟩,
    ⟨(some 57), .unOp .not 4 (.tmp 56), none⟩] [57])
  (.cond (.tmp 57) (.seq (.reg [⟨(some 2), .assign (.const (.bool false)), none⟩] [2])
  .ret)
  .skip))
  (.seq (.reg [⟨(some 2), .assign (.const (.bool true)), none⟩] [2])
  .ret))))))))))
theorem laws_FnExactStrongestPair_k : fnOk Try.prog (fun _ => false) 4 = some (laws_FnExactStrongestPair_c.strip, 58, [.tmp 2]) := by kernel_rfl
/-- loop.example/g01062/laws.FnExactEvidenceOf: number 5, params [0, 1, 2] -/
def laws_FnExactEvidenceOf_c : ACode := (.seq (.reg [⟨(some 6), .assign (.const (.bool false)), none⟩] [0, 1, 2])
  (.seq (.reg [⟨(some 7), .assign (.const (.int .i64 1048576)), none⟩] [0, 1, 2, 7])
  (.seq (.reg [⟨(some 13), .move (.tmp 0), none⟩,
    ⟨(some 14), .move (.tmp 7), none⟩,
    ⟨(some 15), .call ⟨.value (.func 14), #[(.tmp 13), (.tmp 14)], #[22, 3]⟩, none⟩,
    ⟨(some 7), .assign (.tmp 15), none⟩] [0, 1, 2, 7])
  (.seq (.seq (.reg [⟨(some 16), .move (.tmp 7), none⟩,
    ⟨(some 17), .binOp .lss 3 (.tmp 16) (.const (.int .i64 0)) 3, none⟩] [0, 1, 2, 17])
  (.cond (.tmp 17) (.seq (.reg [⟨(some 6), .assign (.const (.bool true)), none⟩] [6])
  .ret)
  .skip))
  (.seq (.reg [⟨(some 19), .move (.tmp 0), none⟩,
    ⟨(some 20), .call ⟨.value (.func 16), #[(.tmp 19)], #[22]⟩, none⟩,
    ⟨(some 21), .move (.tmp 1), none⟩,
    ⟨(some 22), .move (.tmp 2), none⟩,
    ⟨(some 23), .call ⟨.value (.func 21), #[(.tmp 20), (.tmp 21), (.tmp 22)], #[25, 3, 3]⟩, none⟩,
    ⟨(some 18), .move (.tmp 23), none⟩,
    ⟨(some 24), .extract (.tmp 18) 0, none⟩,
    ⟨(some 25), .extract (.tmp 18) 1, none⟩,
    ⟨(some 8), .assign (.tmp 24), none⟩,
    ⟨(some 9), .assign (.tmp 25), none⟩] [0, 1, 2, 8, 9])
  (.seq (.reg [⟨(some 26), .move (.tmp 0), none⟩,
    ⟨(some 27), .call ⟨.value (.func 16), #[(.tmp 26)], #[22]⟩, none⟩,
    ⟨(some 10), .assign (.tmp 27), none⟩] [0, 1, 2, 8, 9, 10])
  (.seq (.reg [⟨(some 29), .move (.tmp 10), none⟩,
    ⟨(some 30), .move (.tmp 1), none⟩,
    ⟨(some 31), .move (.tmp 2), none⟩,
    ⟨(some 32), .call ⟨.value (.func 22), #[(.tmp 29), (.tmp 30), (.tmp 31)], #[25, 3, 3]⟩, none⟩,
    ⟨(some 28), .move (.tmp 32), none⟩,
    ⟨(some 33), .extract (.tmp 28) 0, none⟩,
    ⟨(some 34), .extract (.tmp 28) 1, none⟩,
    ⟨(some 11), .assign (.tmp 33), none⟩,
    ⟨(some 12), .assign (.tmp 34), none⟩] [0, 8, 9, 10, 11, 12])
  (.seq (.seq (.reg [⟨(some 35), .move (.tmp 11), none⟩,
    ⟨(some 36), .move (.tmp 8), none⟩,
    ⟨(some 37), .binOp .neq 3 (.tmp 35) (.tmp 36) 3, none⟩,
    ⟨(some 38), .move (.tmp 37), none⟩,
    ⟨(some 39), .move (.tmp 12), (some (some 38, false))⟩,
    ⟨(some 40), .move (.tmp 9), (some (some 38, false))⟩,
    ⟨(some 41), .binOp .neq 4 (.tmp 39) (.tmp 40) 4, (some (some 38, false))⟩,
    ⟨(some 42), .pick (.tmp 38) (.const (.bool true)) (.tmp 41), none⟩] [0, 10, 42])
  (.cond (.tmp 42) (.seq (.reg [⟨(some 6), .assign (.const (.bool false)), none⟩] [6])
  .ret)
  .skip))
  (.seq (.seq (.reg [⟨(some 43), .move (.tmp 10), none⟩,
    ⟨(some 44), .move (.tmp 0), none⟩,
    ⟨(some 45), .call ⟨.value (.func 16), #[(.tmp 44)], #[22]⟩, none⟩,
    ⟨(some 46), .call ⟨.value (.func 18), #[(.tmp 43), (.tmp 45)], #[25, 25]⟩, none⟩,
    ⟨(some 47), .unOp .not 4 (.tmp 46), none⟩] [47])
  (.cond (.tmp 47) (.seq (.reg [⟨(some 6), .assign (.const (.bool false)), none⟩] [6])
  .ret)
  .skip))
  (.seq (.reg [⟨(some 6), .assign (.const (.bool true)), none⟩] [6])
  .ret))))))))))
theorem laws_FnExactEvidenceOf_k : fnOk Try.prog (fun _ => false) 5 = some (laws_FnExactEvidenceOf_c.strip, 48, [.tmp 6]) := by kernel_rfl
/-- loop.example/g01062/laws.FnExactAddSighting: number 6, params [0, 1, 2, 3] -/
def laws_FnExactAddSighting_c : ACode := (.seq (.reg [⟨(some 8), .assign (.const (.bool false)), none⟩] [0, 1, 2, 3])
  (.seq (.seq (.reg [⟨(some 24), .move (.tmp 2), none⟩,
    ⟨(some 25), .call ⟨.builtin .len, #[(.tmp 24)], #[9]⟩, none⟩,
    ⟨(some 26), .binOp .gtr 3 (.tmp 25) (.const (.int .i64 1048576)) 3, none⟩] [0, 1, 2, 3, 26])
  (.cond (.tmp 26) (.seq (.reg [⟨(some 8), .assign (.const (.bool true)), none⟩] [8])
  .ret)
  .skip))
  (.seq (.seq (.reg [⟨(some 27), .move (.tmp 3), none⟩,
    ⟨(some 28), .call ⟨.builtin .len, #[(.tmp 27)], #[34]⟩, none⟩,
    ⟨(some 29), .binOp .gtr 3 (.tmp 28) (.const (.int .i64 1048576)) 3, none⟩] [0, 1, 2, 3, 29])
  (.cond (.tmp 29) (.seq (.reg [⟨(some 8), .assign (.const (.bool true)), none⟩] [8])
  .ret)
  .skip))
  (.seq (.reg [⟨(some 9), .assign (.const (.int .i64 1048576)), none⟩] [0, 1, 2, 3, 9])
  (.seq (.reg [⟨(some 30), .move (.tmp 0), none⟩,
    ⟨(some 31), .move (.tmp 9), none⟩,
    ⟨(some 32), .call ⟨.value (.func 14), #[(.tmp 30), (.tmp 31)], #[22, 3]⟩, none⟩,
    ⟨(some 9), .assign (.tmp 32), none⟩] [0, 1, 2, 3, 9])
  (.seq (.seq (.reg [⟨(some 33), .move (.tmp 9), none⟩,
    ⟨(some 34), .binOp .lss 3 (.tmp 33) (.const (.int .i64 0)) 3, none⟩] [0, 1, 2, 3, 34])
  (.cond (.tmp 34) (.seq (.reg [⟨(some 8), .assign (.const (.bool true)), none⟩] [8])
  .ret)
  .skip))
  (.seq (.reg [⟨(some 36), .move (.tmp 0), none⟩,
    ⟨(some 37), .call ⟨.value (.func 16), #[(.tmp 36)], #[22]⟩, none⟩,
    ⟨(some 38), .move (.tmp 1), none⟩,
    ⟨(some 39), .move (.tmp 2), none⟩,
    ⟨(some 40), .move (.tmp 3), none⟩,
    ⟨(some 41), .call ⟨.value (.func 24), #[(.tmp 40)], #[34]⟩, none⟩,
    ⟨(some 42), .call ⟨.value (.func 23), #[(.tmp 37), (.tmp 38), (.tmp 39), (.tmp 41)], #[25, 3, 9, 34]⟩, none⟩,
    ⟨(some 35), .move (.tmp 42), none⟩,
    ⟨(some 43), .extract (.tmp 35) 0, none⟩,
    ⟨(some 44), .extract (.tmp 35) 1, none⟩,
    ⟨(some 45), .extract (.tmp 35) 2, none⟩,
    ⟨(some 10), .assign (.tmp 43), none⟩,
    ⟨(some 11), .assign (.tmp 44), none⟩,
    ⟨(some 12), .assign (.tmp 45), none⟩] [0, 1, 2, 3, 10, 11, 12])
  (.seq (.reg [⟨(some 46), .move (.tmp 0), none⟩,
    ⟨(some 47), .call ⟨.value (.func 16), #[(.tmp 46)], #[22]⟩, none⟩,
    ⟨(some 13), .assign (.tmp 47), none⟩] [0, 1, 2, 3, 10, 11, 12, 13])
  (.seq (.reg [⟨(some 48), .move (.tmp 3), none⟩,
    ⟨(some 49), .call ⟨.value (.func 24), #[(.tmp 48)], #[34]⟩, none⟩,
    ⟨(some 14), .assign (.tmp 49), none⟩] [0, 1, 2, 3, 10, 11, 12, 13, 14])
  (.seq (.reg [⟨(some 51), .move (.tmp 13), none⟩,
    ⟨(some 52), .move (.tmp 1), none⟩,
    ⟨(some 53), .move (.tmp 2), none⟩,
    ⟨(some 54), .move (.tmp 14), none⟩,
    ⟨(some 55), .call ⟨.value (.func 25), #[(.tmp 51), (.tmp 52), (.tmp 53), (.tmp 54)], #[25, 3, 9, 34]⟩, none⟩,
    ⟨(some 50), .move (.tmp 55), none⟩,
    ⟨(some 56), .extract (.tmp 50) 0, none⟩,
    ⟨(some 57), .extract (.tmp 50) 1, none⟩,
    ⟨(some 58), .extract (.tmp 50) 2, none⟩,
    ⟨(some 15), .assign (.tmp 56), none⟩,
    ⟨(some 16), .assign (.tmp 57), none⟩,
    ⟨(some 17), .assign (.tmp 58), none⟩] [0, 1, 2, 3, 10, 11, 12, 13, 14, 15, 16, 17])
  (.seq (.seq (.reg [⟨(some 59), .move (.tmp 15), none⟩,
    ⟨(some 60), .move (.tmp 10), none⟩,
    ⟨(some 61), .call ⟨.value (.func 18), #[(.tmp 59), (.tmp 60)], #[25, 25]⟩, none⟩,
    ⟨(some 62), .unOp .not 4 (.tmp 61), none⟩,
    ⟨(some 63), .move (.tmp 62), none⟩,
    ⟨(some 64), .move (.tmp 16), (some (some 63, false))⟩,
    ⟨(some 65), .move (.tmp 11), (some (some 63, false))⟩,
    ⟨(some 66), .binOp .neq 3 (.tmp 64) (.tmp 65) 3, (some (some 63, false))⟩,
    ⟨(some 67), .pick (.tmp 63) (.const (.bool true)) (.tmp 66), none⟩,
    ⟨(some 68), .move (.tmp 67), none⟩,
    ⟨(some 69), .move (.tmp 17), (some (some 68, false))⟩,
    ⟨(some 70), .move (.tmp 12), (some (some 68, false))⟩,
    ⟨(some 71), .binOp .neq 4 (.tmp 69) (.tmp 70) 4, (some (some 68, false))⟩,
    ⟨(some 72), .pick (.tmp 68) (.const (.bool true)) (.tmp 71), none⟩] [0, 1, 2, 3, 10, 11, 12, 13, 14, 15, 16, 17, 72])
  (.cond (.tmp 72) (.seq (.reg [⟨(some 8), .assign (.const (.bool false)), none⟩] [8])
  .ret)
  .skip))
  (.seq (.seq (.reg [⟨(some 73), .move (.tmp 13), none⟩,
    ⟨(some 74), .move (.tmp 0), none⟩,
    ⟨(some 75), .call ⟨.value (.func 16), #[(.tmp 74)], #[22]⟩, none⟩,
    ⟨(some 76), .call ⟨.value (.func 18), #[(.tmp 73), (.tmp 75)], #[25, 25]⟩, none⟩,
    ⟨(some 77), .unOp .not 4 (.tmp 76), none⟩] [0, 1, 2, 3, 10, 11, 12, 13, 14, 15, 16, 17, 77])
  (.cond (.tmp 77) (.seq (.reg [⟨(some 8), .assign (.const (.bool false)), none⟩] [8])
  .ret)
  .skip))
  (.seq (.seq (.reg [⟨(some 78), .move (.tmp 14), none⟩,
    ⟨(some 79), .move (.tmp 3), none⟩,
    ⟨(some 80), .call ⟨.value (.func 24), #[(.tmp 79)], #[34]⟩, none⟩,
    ⟨(some 81), .call ⟨.value (.func 26), #[(.tmp 78), (.tmp 80)], #[34, 34]⟩, none⟩,
    ⟨(some 82), .unOp .not 4 (.tmp 81), none⟩] [0, 1, 2, 3, 10, 11, 12, 13, 14, 15, 16, 17, 82])
  (.cond (.tmp 82) (.seq (.reg [⟨(some 8), .assign (.const (.bool false)), none⟩] [8])
  .ret)
  .skip))
  (.seq (.reg [⟨(some 18), .assign (.const (.int .i64 1)), none⟩] [0, 1, 2, 3, 10, 11, 12, 13, 14, 15, 16, 17, 18])
  (.seq (.reg [⟨(some 83), .move (.tmp 13), none⟩,
    ⟨(some 84), .move (.tmp 18), none⟩,
    ⟨(some 85), .call ⟨.value (.func 27), #[(.tmp 83), (.tmp 84)], #[25, 3]⟩, none⟩,
    ⟨(some 18), .assign (.tmp 85), none⟩] [0, 1, 2, 3, 10, 11, 12, 14, 15, 16, 17, 18])
  (.seq (.reg [⟨(some 86), .move (.tmp 14), none⟩,
    ⟨(some 87), .move (.tmp 18), none⟩,
    ⟨(some 88), .call ⟨.value (.func 28), #[(.tmp 86), (.tmp 87)], #[34, 3]⟩, none⟩,
    ⟨(some 18), .assign (.tmp 88), none⟩] [0, 1, 2, 3, 10, 11, 12, 15, 16, 17, 18])
  (.seq (.seq (.reg [⟨(some 89), .move (.tmp 18), none⟩,
    ⟨(some 90), .binOp .lss 3 (.tmp 89) (.const (.int .i64 0)) 3, none⟩,
    ⟨(some 91), .move (.tmp 90), none⟩,
    ⟨(some 92), .move (.tmp 15), (some (some 91, false))⟩,
    ⟨(some 93), .move (.tmp 10), (some (some 91, false))⟩,
    ⟨(some 94), .call ⟨.value (.func 18), #[(.tmp 92), (.tmp 93)], #[25, 25]⟩, (some (some 91, false))⟩,
    ⟨(some 95), .unOp .not 4 (.tmp 94), (some (some 91, false))⟩,
    ⟨(some 96), .pick (.tmp 91) (.const (.bool true)) (.tmp 95), none⟩,
    ⟨(some 97), .move (.tmp 96), none⟩,
    ⟨(some 98), .move (.tmp 16), (some (some 97, false))⟩,
    ⟨(some 99), .move (.tmp 11), (some (some 97, false))⟩,
    ⟨(some 100), .binOp .neq 3 (.tmp 98) (.tmp 99) 3, (some (some 97, false))⟩,
    ⟨(some 101), .pick (.tmp 97) (.const (.bool true)) (.tmp 100), none⟩,
    ⟨(some 102), .move (.tmp 101), none⟩,
    ⟨(some 103), .move (.tmp 17), (some (some 102, false))⟩,
    ⟨(some 104), .move (.tmp 12), (some (some 102, false))⟩,
    ⟨(some 105), .binOp .neq 4 (.tmp 103) (.tmp 104) 4, (some (some 102, false))⟩,
    ⟨(some 106), .pick (.tmp 102) (.const (.bool true)) (.tmp 105), none⟩] [0, 1, 2, 3, 10, 11, 12, 15, 106])
  (.cond (.tmp 106) (.seq (.reg [⟨(some 8), .assign (.const (.bool false)), none⟩] [8])
  .ret)
  .skip))
  (.seq (.reg [⟨(some 19), .assign (.const (.int .i64 1)), none⟩] [0, 1, 2, 3, 10, 11, 12, 15, 19])
  (.seq (.reg [⟨(some 107), .move (.tmp 15), none⟩,
    ⟨(some 108), .move (.tmp 19), none⟩,
    ⟨(some 109), .call ⟨.value (.func 27), #[(.tmp 107), (.tmp 108)], #[25, 3]⟩, none⟩,
    ⟨(some 19), .assign (.tmp 109), none⟩] [0, 1, 2, 3, 10, 11, 12, 15, 19])
  (.seq (.reg [⟨(some 20), .assign (.const (.int .i64 1)), none⟩] [0, 1, 2, 3, 10, 11, 12, 15, 19, 20])
  (.seq (.reg [⟨(some 110), .move (.tmp 15), none⟩,
    ⟨(some 111), .move (.tmp 20), none⟩,
    ⟨(some 112), .call ⟨.value (.func 29), #[(.tmp 110), (.tmp 111)], #[25, 3]⟩, none⟩,
    ⟨(some 20), .assign (.tmp 112), none⟩] [0, 1, 2, 3, 10, 11, 12, 15, 19, 20])
  (.seq (.seq (.reg [⟨(some 113), .move (.tmp 20), none⟩,
    ⟨(some 114), .binOp .lss 3 (.tmp 113) (.const (.int .i64 0)) 3, none⟩] [0, 1, 2, 3, 10, 11, 12, 15, 19, 20, 114])
  (.cond (.tmp 114) (.seq (.reg [⟨(some 8), .assign (.const (.bool false)), none⟩] [8])
  .ret)
  .skip))
  (.seq (.seq (.reg [⟨(some 115), .move (.tmp 20), none⟩,
    ⟨(some 116), .move (.tmp 19), none⟩,
    ⟨(some 117), .binOp .neq 3 (.tmp 115) (.tmp 116) 3, none⟩] [0, 1, 2, 3, 10, 11, 12, 15, 19, 117])
  (.cond (.tmp 117) (.seq (.reg [⟨(some 8), .assign (.const (.bool false)), none⟩] [8])
  .ret)
  .skip))
  (.seq (.reg [⟨(some 119), .move (.tmp 0), none⟩,
    ⟨(some 120), .call ⟨.value (.func 16), #[(.tmp 119)], #[22]⟩, none⟩,
    ⟨(some 121), .move (.tmp 1), none⟩,
    ⟨(some 122), .move (.tmp 2), none⟩,
    ⟨(some 123), .move (.tmp 3), none⟩,
    ⟨(some 124), .call ⟨.value (.func 24), #[(.tmp 123)], #[34]⟩, none⟩,
    ⟨(some 125), .call ⟨.value (.func 25), #[(.tmp 120), (.tmp 121), (.tmp 122), (.tmp 124)], #[25, 3, 9, 34]⟩, none⟩,
    ⟨(some 118), .move (.tmp 125), none⟩,
    ⟨(some 126), .extract (.tmp 118) 0, none⟩,
    ⟨(some 127), .extract (.tmp 118) 1, none⟩,
    ⟨(some 128), .extract (.tmp 118) 2, none⟩,
    ⟨(some 21), .assign (.tmp 126), none⟩,
    ⟨(some 22), .assign (.tmp 127), none⟩,
    ⟨(some 23), .assign (.tmp 128), none⟩] [10, 11, 12, 15, 19, 21, 22, 23])
  (.seq (.seq (.reg [⟨(some 129), .move (.tmp 21), none⟩,
    ⟨(some 130), .move (.tmp 10), none⟩,
    ⟨(some 131), .call ⟨.value (.func 18), #[(.tmp 129), (.tmp 130)], #[25, 25]⟩, none⟩,
    ⟨(some 132), .unOp .not 4 (.tmp 131), none⟩,
    ⟨(some 133), .move (.tmp 132), none⟩,
    ⟨(some 134), .move (.tmp 22), (some (some 133, false))⟩,
    ⟨(some 135), .move (.tmp 11), (some (some 133, false))⟩,
    ⟨(some 136), .binOp .neq 3 (.tmp 134) (.tmp 135) 3, (some (some 133, false))⟩,
    ⟨(some 137), .pick (.tmp 133) (.const (.bool true)) (.tmp 136), none⟩,
    ⟨(some 138), .move (.tmp 137), none⟩,
    ⟨(some 139), .move (.tmp 23), (some (some 138, false))⟩,
    ⟨(some 140), .move (.tmp 12), (some (some 138, false))⟩,
    ⟨(some 141), .binOp .neq 4 (.tmp 139) (.tmp 140) 4, (some (some 138, false))⟩,
    ⟨(some 142), .pick (.tmp 138) (.const (.bool true)) (.tmp 141), none⟩] [15, 19, 142])
  (.cond (.tmp 142) (.seq (.reg [⟨(some 8), .assign (.const (.bool false)), none⟩] [8])
  .ret)
  .skip))
  (.seq (.reg [⟨(some 20), .assign (.const (.int .i64 1)), none⟩] [15, 19, 20])
  (.seq (.reg [⟨(some 143), .move (.tmp 15), none⟩,
    ⟨(some 144), .move (.tmp 20), none⟩,
    ⟨(some 145), .call ⟨.value (.func 29), #[(.tmp 143), (.tmp 144)], #[25, 3]⟩, none⟩,
    ⟨(some 20), .assign (.tmp 145), none⟩] [19, 20])
  (.seq (.seq (.reg [⟨(some 146), .move (.tmp 20), none⟩,
    ⟨(some 147), .binOp .lss 3 (.tmp 146) (.const (.int .i64 0)) 3, none⟩] [19, 20, 147])
  (.cond (.tmp 147) (.seq (.reg [⟨(some 8), .assign (.const (.bool false)), none⟩] [8])
  .ret)
  .skip))
  (.seq (.seq (.reg [⟨(some 148), .move (.tmp 20), none⟩,
    ⟨(some 149), .move (.tmp 19), none⟩,
    ⟨(some 150), .binOp .neq 3 (.tmp 148) (.tmp 149) 3, none⟩] [150])
  (.cond (.tmp 150) (.seq (.reg [⟨(some 8), .assign (.const (.bool false)), none⟩] [8])
  .ret)
  .skip))
  (.seq (.reg [⟨(some 8), .assign (.const (.bool true)), none⟩] [8])
  .ret))))))))))))))))))))))))))))))
theorem laws_FnExactAddSighting_k : fnOk Try.prog (fun _ => false) 6 = some (laws_FnExactAddSighting_c.strip, 151, [.tmp 8]) := by kernel_rfl
/-- loop.example/g01062/laws.FnExactGreatestLimit: number 7, params [0, 1, 2] -/
def laws_FnExactGreatestLimit_c : ACode := (.seq (.reg [⟨(some 6), .assign (.const (.bool false)), none⟩] [0, 1, 2])
  (.seq (.reg [⟨(some 7), .assign (.const (.int .i64 1048576)), none⟩] [0, 1, 2, 7])
  (.seq (.reg [⟨(some 13), .move (.tmp 0), none⟩,
    ⟨(some 14), .move (.tmp 7), none⟩,
    ⟨(some 15), .call ⟨.value (.func 14), #[(.tmp 13), (.tmp 14)], #[22, 3]⟩, none⟩,
    ⟨(some 7), .assign (.tmp 15), none⟩] [0, 1, 2, 7])
  (.seq (.seq (.reg [⟨(some 16), .move (.tmp 7), none⟩,
    ⟨(some 17), .binOp .lss 3 (.tmp 16) (.const (.int .i64 0)) 3, none⟩] [0, 1, 2, 17])
  (.cond (.tmp 17) (.seq (.reg [⟨(some 6), .assign (.const (.bool true)), none⟩] [6])
  .ret)
  .skip))
  (.seq (.reg [⟨(some 19), .move (.tmp 0), none⟩,
    ⟨(some 20), .call ⟨.value (.func 16), #[(.tmp 19)], #[22]⟩, none⟩,
    ⟨(some 21), .move (.tmp 1), none⟩,
    ⟨(some 22), .move (.tmp 2), none⟩,
    ⟨(some 23), .call ⟨.value (.func 30), #[(.tmp 20), (.tmp 21), (.tmp 22)], #[25, 3, 3]⟩, none⟩,
    ⟨(some 18), .move (.tmp 23), none⟩,
    ⟨(some 24), .extract (.tmp 18) 0, none⟩,
    ⟨(some 25), .extract (.tmp 18) 1, none⟩,
    ⟨(some 8), .assign (.tmp 24), none⟩,
    ⟨(some 9), .assign (.tmp 25), none⟩] [0, 1, 2, 8, 9])
  (.seq (.reg [⟨(some 26), .move (.tmp 0), none⟩,
    ⟨(some 27), .call ⟨.value (.func 16), #[(.tmp 26)], #[22]⟩, none⟩,
    ⟨(some 10), .assign (.tmp 27), none⟩] [0, 1, 2, 8, 9, 10])
  (.seq (.reg [⟨(some 29), .move (.tmp 10), none⟩,
    ⟨(some 30), .move (.tmp 1), none⟩,
    ⟨(some 31), .move (.tmp 2), none⟩,
    ⟨(some 32), .call ⟨.value (.func 31), #[(.tmp 29), (.tmp 30), (.tmp 31)], #[25, 3, 3]⟩, none⟩,
    ⟨(some 28), .move (.tmp 32), none⟩,
    ⟨(some 33), .extract (.tmp 28) 0, none⟩,
    ⟨(some 34), .extract (.tmp 28) 1, none⟩,
    ⟨(some 11), .assign (.tmp 33), none⟩,
    ⟨(some 12), .assign (.tmp 34), none⟩] [0, 8, 9, 10, 11, 12])
  (.seq (.seq (.reg [⟨(some 35), .move (.tmp 11), none⟩,
    ⟨(some 36), .move (.tmp 8), none⟩,
    ⟨(some 37), .binOp .neq 3 (.tmp 35) (.tmp 36) 3, none⟩,
    ⟨(some 38), .move (.tmp 37), none⟩,
    ⟨(some 39), .move (.tmp 12), (some (some 38, false))⟩,
    ⟨(some 40), .move (.tmp 9), (some (some 38, false))⟩,
    ⟨(some 41), .binOp .neq 4 (.tmp 39) (.tmp 40) 4, (some (some 38, false))⟩,
    ⟨(some 42), .pick (.tmp 38) (.const (.bool true)) (.tmp 41), none⟩] [0, 10, 42])
  (.cond (.tmp 42) (.seq (.reg [⟨(some 6), .assign (.const (.bool false)), none⟩] [6])
  .ret)
  .skip))
  (.seq (.seq (.reg [⟨(some 43), .move (.tmp 10), none⟩,
    ⟨(some 44), .move (.tmp 0), none⟩,
    ⟨(some 45), .call ⟨.value (.func 16), #[(.tmp 44)], #[22]⟩, none⟩,
    ⟨(some 46), .call ⟨.value (.func 18), #[(.tmp 43), (.tmp 45)], #[25, 25]⟩, none⟩,
    ⟨(some 47), .unOp .not 4 (.tmp 46), none⟩] [47])
  (.cond (.tmp 47) (.seq (.reg [⟨(some 6), .assign (.const (.bool false)), none⟩] [6])
  .ret)
  .skip))
  (.seq (.reg [⟨(some 6), .assign (.const (.bool true)), none⟩] [6])
  .ret))))))))))
theorem laws_FnExactGreatestLimit_k : fnOk Try.prog (fun _ => false) 7 = some (laws_FnExactGreatestLimit_c.strip, 48, [.tmp 6]) := by kernel_rfl
/-- loop.example/g01062/laws.FnExactLoneSightings: number 8, params [0, 1] -/
def laws_FnExactLoneSightings_c : ACode := (.seq (.reg [⟨(some 4), .assign (.const (.bool false)), none⟩] [0, 1])
  (.seq (.reg [⟨(some 5), .assign (.const (.int .i64 1048576)), none⟩] [0, 1, 5])
  (.seq (.reg [⟨(some 16), .move (.tmp 0), none⟩,
    ⟨(some 17), .move (.tmp 5), none⟩,
    ⟨(some 18), .call ⟨.value (.func 14), #[(.tmp 16), (.tmp 17)], #[22, 3]⟩, none⟩,
    ⟨(some 5), .assign (.tmp 18), none⟩] [0, 1, 5])
  (.seq (.seq (.reg [⟨(some 19), .move (.tmp 5), none⟩,
    ⟨(some 20), .binOp .lss 3 (.tmp 19) (.const (.int .i64 0)) 3, none⟩] [0, 1, 20])
  (.cond (.tmp 20) (.seq (.reg [⟨(some 4), .assign (.const (.bool true)), none⟩] [4])
  .ret)
  .skip))
  (.seq (.reg [⟨(some 22), .move (.tmp 0), none⟩,
    ⟨(some 23), .call ⟨.value (.func 16), #[(.tmp 22)], #[22]⟩, none⟩,
    ⟨(some 24), .move (.tmp 1), none⟩,
    ⟨(some 25), .call ⟨.value (.func 32), #[(.tmp 23), (.tmp 24)], #[25, 3]⟩, none⟩,
    ⟨(some 21), .move (.tmp 25), none⟩,
    ⟨(some 26), .extract (.tmp 21) 0, none⟩,
    ⟨(some 27), .extract (.tmp 21) 1, none⟩,
    ⟨(some 6), .assign (.tmp 26), none⟩,
    ⟨(some 7), .assign (.tmp 27), none⟩] [0, 1, 6, 7])
  (.seq (.reg [⟨(some 28), .move (.tmp 0), none⟩,
    ⟨(some 29), .call ⟨.value (.func 16), #[(.tmp 28)], #[22]⟩, none⟩,
    ⟨(some 8), .assign (.tmp 29), none⟩] [0, 1, 6, 7, 8])
  (.seq (.reg [⟨(some 31), .move (.tmp 8), none⟩,
    ⟨(some 32), .move (.tmp 1), none⟩,
    ⟨(some 33), .call ⟨.value (.func 33), #[(.tmp 31), (.tmp 32)], #[25, 3]⟩, none⟩,
    ⟨(some 30), .move (.tmp 33), none⟩,
    ⟨(some 34), .extract (.tmp 30) 0, none⟩,
    ⟨(some 35), .extract (.tmp 30) 1, none⟩,
    ⟨(some 9), .assign (.tmp 34), none⟩,
    ⟨(some 10), .assign (.tmp 35), none⟩] [0, 1, 6, 7, 8, 9, 10])
  (.seq (.seq (.reg [⟨(some 36), .move (.tmp 9), none⟩,
    ⟨(some 37), .move (.tmp 6), none⟩,
    ⟨(some 38), .call ⟨.value (.func 26), #[(.tmp 36), (.tmp 37)], #[34, 34]⟩, none⟩,
    ⟨(some 39), .unOp .not 4 (.tmp 38), none⟩,
    ⟨(some 40), .move (.tmp 39), none⟩,
    ⟨(some 41), .move (.tmp 10), (some (some 40, false))⟩,
    ⟨(some 42), .move (.tmp 7), (some (some 40, false))⟩,
    ⟨(some 43), .binOp .neq 4 (.tmp 41) (.tmp 42) 4, (some (some 40, false))⟩,
    ⟨(some 44), .pick (.tmp 40) (.const (.bool true)) (.tmp 43), none⟩] [0, 1, 6, 7, 8, 9, 10, 44])
  (.cond (.tmp 44) (.seq (.reg [⟨(some 4), .assign (.const (.bool false)), none⟩] [4])
  .ret)
  .skip))
  (.seq (.seq (.reg [⟨(some 45), .move (.tmp 8), none⟩,
    ⟨(some 46), .move (.tmp 0), none⟩,
    ⟨(some 47), .call ⟨.value (.func 16), #[(.tmp 46)], #[22]⟩, none⟩,
    ⟨(some 48), .call ⟨.value (.func 18), #[(.tmp 45), (.tmp 47)], #[25, 25]⟩, none⟩,
    ⟨(some 49), .unOp .not 4 (.tmp 48), none⟩] [0, 1, 6, 7, 8, 9, 10, 49])
  (.cond (.tmp 49) (.seq (.reg [⟨(some 4), .assign (.const (.bool false)), none⟩] [4])
  .ret)
  .skip))
  (.seq (.reg [⟨(some 11), .assign (.const (.int .i64 1)), none⟩] [0, 1, 6, 7, 8, 9, 10, 11])
  (.seq (.reg [⟨(some 50), .move (.tmp 8), none⟩,
    ⟨(some 51), .move (.tmp 11), none⟩,
    ⟨(some 52), .call ⟨.value (.func 27), #[(.tmp 50), (.tmp 51)], #[25, 3]⟩, none⟩,
    ⟨(some 11), .assign (.tmp 52), none⟩] [0, 1, 6, 7, 9, 10, 11])
  (.seq (.seq (.reg [⟨(some 53), .move (.tmp 11), none⟩,
    ⟨(some 54), .binOp .lss 3 (.tmp 53) (.const (.int .i64 0)) 3, none⟩,
    ⟨(some 55), .move (.tmp 54), none⟩,
    ⟨(some 56), .move (.tmp 9), (some (some 55, false))⟩,
    ⟨(some 57), .move (.tmp 6), (some (some 55, false))⟩,
    ⟨(some 58), .call ⟨.value (.func 26), #[(.tmp 56), (.tmp 57)], #[34, 34]⟩, (some (some 55, false))⟩,
    ⟨(some 59), .unOp .not 4 (.tmp 58), (some (some 55, false))⟩,
    ⟨(some 60), .pick (.tmp 55) (.const (.bool true)) (.tmp 59), none⟩,
    ⟨(some 61), .move (.tmp 60), none⟩,
    ⟨(some 62), .move (.tmp 10), (some (some 61, false))⟩,
    ⟨(some 63), .move (.tmp 7), (some (some 61, false))⟩,
    ⟨(some 64), .binOp .neq 4 (.tmp 62) (.tmp 63) 4, (some (some 61, false))⟩,
    ⟨(some 65), .pick (.tmp 61) (.const (.bool true)) (.tmp 64), none⟩] [0, 1, 6, 7, 9, 65])
  (.cond (.tmp 65) (.seq (.reg [⟨(some 4), .assign (.const (.bool false)), none⟩] [4])
  .ret)
  .skip))
  (.seq (.reg [⟨(some 12), .assign (.const (.int .i64 1)), none⟩] [0, 1, 6, 7, 9, 12])
  (.seq (.reg [⟨(some 66), .move (.tmp 9), none⟩,
    ⟨(some 67), .move (.tmp 12), none⟩,
    ⟨(some 68), .call ⟨.value (.func 28), #[(.tmp 66), (.tmp 67)], #[34, 3]⟩, none⟩,
    ⟨(some 12), .assign (.tmp 68), none⟩] [0, 1, 6, 7, 9, 12])
  (.seq (.reg [⟨(some 13), .assign (.const (.int .i64 1)), none⟩] [0, 1, 6, 7, 9, 12, 13])
  (.seq (.reg [⟨(some 69), .move (.tmp 9), none⟩,
    ⟨(some 70), .move (.tmp 13), none⟩,
    ⟨(some 71), .call ⟨.value (.func 34), #[(.tmp 69), (.tmp 70)], #[34, 3]⟩, none⟩,
    ⟨(some 13), .assign (.tmp 71), none⟩] [0, 1, 6, 7, 9, 12, 13])
  (.seq (.seq (.reg [⟨(some 72), .move (.tmp 13), none⟩,
    ⟨(some 73), .binOp .lss 3 (.tmp 72) (.const (.int .i64 0)) 3, none⟩] [0, 1, 6, 7, 9, 12, 13, 73])
  (.cond (.tmp 73) (.seq (.reg [⟨(some 4), .assign (.const (.bool false)), none⟩] [4])
  .ret)
  .skip))
  (.seq (.seq (.reg [⟨(some 74), .move (.tmp 13), none⟩,
    ⟨(some 75), .move (.tmp 12), none⟩,
    ⟨(some 76), .binOp .neq 3 (.tmp 74) (.tmp 75) 3, none⟩] [0, 1, 6, 7, 9, 12, 76])
  (.cond (.tmp 76) (.seq (.reg [⟨(some 4), .assign (.const (.bool false)), none⟩] [4])
  .ret)
  .skip))
  (.seq (.reg [⟨(some 78), .move (.tmp 0), none⟩,
    ⟨(some 79), .call ⟨.value (.func 16), #[(.tmp 78)], #[22]⟩, none⟩,
    ⟨(some 80), .move (.tmp 1), none⟩,
    ⟨(some 81), .call ⟨.value (.func 33), #[(.tmp 79), (.tmp 80)], #[25, 3]⟩, none⟩,
    ⟨(some 77), .move (.tmp 81), none⟩,
    ⟨(some 82), .extract (.tmp 77) 0, none⟩,
    ⟨(some 83), .extract (.tmp 77) 1, none⟩,
    ⟨(some 14), .assign (.tmp 82), none⟩,
    ⟨(some 15), .assign (.tmp 83), none⟩] [6, 7, 9, 12, 14, 15])
  (.seq (.seq (.reg [⟨(some 84), .move (.tmp 14), none⟩,
    ⟨(some 85), .move (.tmp 6), none⟩,
    ⟨(some 86), .call ⟨.value (.func 26), #[(.tmp 84), (.tmp 85)], #[34, 34]⟩, none⟩,
    ⟨(some 87), .unOp .not 4 (.tmp 86), none⟩,
    ⟨(some 88), .move (.tmp 87), none⟩,
    ⟨(some 89), .move (.tmp 15), (some (some 88, false))⟩,
    ⟨(some 90), .move (.tmp 7), (some (some 88, false))⟩,
    ⟨(some 91), .binOp .neq 4 (.tmp 89) (.tmp 90) 4, (some (some 88, false))⟩,
    ⟨(some 92), .pick (.tmp 88) (.const (.bool true)) (.tmp 91), none⟩] [9, 12, 92])
  (.cond (.tmp 92) (.seq (.reg [⟨(some 4), .assign (.const (.bool false)), none⟩] [4])
  .ret)
  .skip))
  (.seq (.reg [⟨(some 13), .assign (.const (.int .i64 1)), none⟩] [9, 12, 13])
  (.seq (.reg [⟨(some 93), .move (.tmp 9), none⟩,
    ⟨(some 94), .move (.tmp 13), none⟩,
    ⟨(some 95), .call ⟨.value (.func 34), #[(.tmp 93), (.tmp 94)], #[34, 3]⟩, none⟩,
    ⟨(some 13), .assign (.tmp 95), none⟩] [12, 13])
  (.seq (.seq (.reg [⟨(some 96), .move (.tmp 13), none⟩,
    ⟨(some 97), .binOp .lss 3 (.tmp 96) (.const (.int .i64 0)) 3, none⟩] [12, 13, 97])
  (.cond (.tmp 97) (.seq (.reg [⟨(some 4), .assign (.const (.bool false)), none⟩] [4])
  .ret)
  .skip))
  (.seq (.seq (.reg [⟨(some 98), .move (.tmp 13), none⟩,
    ⟨(some 99), .move (.tmp 12), none⟩,
    ⟨(some 100), .binOp .neq 3 (.tmp 98) (.tmp 99) 3, none⟩] [100])
  (.cond (.tmp 100) (.seq (.reg [⟨(some 4), .assign (.const (.bool false)), none⟩] [4])
  .ret)
  .skip))
  (.seq (.reg [⟨(some 4), .assign (.const (.bool true)), none⟩] [4])
  .ret)))))))))))))))))))))))))
theorem laws_FnExactLoneSightings_k : fnOk Try.prog (fun _ => false) 8 = some (laws_FnExactLoneSightings_c.strip, 101, [.tmp 4]) := by kernel_rfl
/-- loop.example/g01062/laws.FnExactYearsSeen: number 9, params [0, 1, 2] -/
def laws_FnExactYearsSeen_c : ACode := (.seq (.reg [⟨(some 6), .assign (.const (.bool false)), none⟩] [0, 1, 2])
  (.seq (.reg [⟨(some 7), .assign (.const (.int .i64 1048576)), none⟩] [0, 1, 2, 7])
  (.seq (.reg [⟨(some 15), .move (.tmp 0), none⟩,
    ⟨(some 16), .move (.tmp 7), none⟩,
    ⟨(some 17), .call ⟨.value (.func 14), #[(.tmp 15), (.tmp 16)], #[22, 3]⟩, none⟩,
    ⟨(some 7), .assign (.tmp 17), none⟩] [0, 1, 2, 7])
  (.seq (.seq (.reg [⟨(some 18), .move (.tmp 7), none⟩,
    ⟨(some 19), .binOp .lss 3 (.tmp 18) (.const (.int .i64 0)) 3, none⟩] [0, 1, 2, 19])
  (.cond (.tmp 19) (.seq (.reg [⟨(some 6), .assign (.const (.bool true)), none⟩] [6])
  .ret)
  .skip))
  (.seq (.reg [⟨(some 21), .move (.tmp 0), none⟩,
    ⟨(some 22), .call ⟨.value (.func 16), #[(.tmp 21)], #[22]⟩, none⟩,
    ⟨(some 23), .move (.tmp 1), none⟩,
    ⟨(some 24), .move (.tmp 2), none⟩,
    ⟨(some 25), .call ⟨.value (.func 35), #[(.tmp 22), (.tmp 23), (.tmp 24)], #[25, 3, 3]⟩, none⟩,
    ⟨(some 20), .move (.tmp 25), none⟩,
    ⟨(some 26), .extract (.tmp 20) 0, none⟩,
    ⟨(some 27), .extract (.tmp 20) 1, none⟩,
    ⟨(some 28), .extract (.tmp 20) 2, none⟩,
    ⟨(some 8), .assign (.tmp 26), none⟩,
    ⟨(some 9), .assign (.tmp 27), none⟩,
    ⟨(some 10), .assign (.tmp 28), none⟩] [0, 1, 2, 8, 9, 10])
  (.seq (.reg [⟨(some 29), .move (.tmp 0), none⟩,
    ⟨(some 30), .call ⟨.value (.func 16), #[(.tmp 29)], #[22]⟩, none⟩,
    ⟨(some 11), .assign (.tmp 30), none⟩] [0, 1, 2, 8, 9, 10, 11])
  (.seq (.reg [⟨(some 32), .move (.tmp 11), none⟩,
    ⟨(some 33), .move (.tmp 1), none⟩,
    ⟨(some 34), .move (.tmp 2), none⟩,
    ⟨(some 35), .call ⟨.value (.func 36), #[(.tmp 32), (.tmp 33), (.tmp 34)], #[25, 3, 3]⟩, none⟩,
    ⟨(some 31), .move (.tmp 35), none⟩,
    ⟨(some 36), .extract (.tmp 31) 0, none⟩,
    ⟨(some 37), .extract (.tmp 31) 1, none⟩,
    ⟨(some 38), .extract (.tmp 31) 2, none⟩,
    ⟨(some 12), .assign (.tmp 36), none⟩,
    ⟨(some 13), .assign (.tmp 37), none⟩,
    ⟨(some 14), .assign (.tmp 38), none⟩] [0, 8, 9, 10, 11, 12, 13, 14])
  (.seq (.seq (.reg [⟨(some 39), .move (.tmp 12), none⟩,
    ⟨(some 40), .move (.tmp 8), none⟩,
    ⟨(some 41), .binOp .neq 3 (.tmp 39) (.tmp 40) 3, none⟩,
    ⟨(some 42), .move (.tmp 41), none⟩,
    ⟨(some 43), .move (.tmp 13), (some (some 42, false))⟩,
    ⟨(some 44), .move (.tmp 9), (some (some 42, false))⟩,
    ⟨(some 45), .binOp .neq 3 (.tmp 43) (.tmp 44) 3, (some (some 42, false))⟩,
    ⟨(some 46), .pick (.tmp 42) (.const (.bool true)) (.tmp 45), none⟩,
    ⟨(some 47), .move (.tmp 46), none⟩,
    ⟨(some 48), .move (.tmp 14), (some (some 47, false))⟩,
    ⟨(some 49), .move (.tmp 10), (some (some 47, false))⟩,
    ⟨(some 50), .binOp .neq 4 (.tmp 48) (.tmp 49) 4, (some (some 47, false))⟩,
    ⟨(some 51), .pick (.tmp 47) (.const (.bool true)) (.tmp 50), none⟩] [0, 11, 51])
  (.cond (.tmp 51) (.seq (.reg [⟨(some 6), .assign (.const (.bool false)), none⟩] [6])
  .ret)
  .skip))
  (.seq (.seq (.reg [⟨(some 52), .move (.tmp 11), none⟩,
    ⟨(some 53), .move (.tmp 0), none⟩,
    ⟨(some 54), .call ⟨.value (.func 16), #[(.tmp 53)], #[22]⟩, none⟩,
    ⟨(some 55), .call ⟨.value (.func 18), #[(.tmp 52), (.tmp 54)], #[25, 25]⟩, none⟩,
    ⟨(some 56), .unOp .not 4 (.tmp 55), none⟩] [56])
  (.cond (.tmp 56) (.seq (.reg [⟨(some 6), .assign (.const (.bool false)), none⟩] [6])
  .ret)
  .skip))
  (.seq (.reg [⟨(some 6), .assign (.const (.bool true)), none⟩] [6])
  .ret))))))))))
theorem laws_FnExactYearsSeen_k : fnOk Try.prog (fun _ => false) 9 = some (laws_FnExactYearsSeen_c.strip, 57, [.tmp 6]) := by kernel_rfl
/-- loop.example/g01062/laws.FnExactCoversSeen: number 10, params [0, 1] -/
def laws_FnExactCoversSeen_c : ACode := (.seq (.reg [⟨(some 4), .assign (.const (.bool false)), none⟩] [0, 1])
  (.seq (.reg [⟨(some 5), .assign (.const (.int .i64 1048576)), none⟩] [0, 1, 5])
  (.seq (.reg [⟨(some 16), .move (.tmp 0), none⟩,
    ⟨(some 17), .move (.tmp 5), none⟩,
    ⟨(some 18), .call ⟨.value (.func 14), #[(.tmp 16), (.tmp 17)], #[22, 3]⟩, none⟩,
    ⟨(some 5), .assign (.tmp 18), none⟩] [0, 1, 5])
  (.seq (.seq (.reg [⟨(some 19), .move (.tmp 5), none⟩,
    ⟨(some 20), .binOp .lss 3 (.tmp 19) (.const (.int .i64 0)) 3, none⟩] [0, 1, 20])
  (.cond (.tmp 20) (.seq (.reg [⟨(some 4), .assign (.const (.bool true)), none⟩] [4])
  .ret)
  .skip))
  (.seq (.reg [⟨(some 22), .move (.tmp 0), none⟩,
    ⟨(some 23), .call ⟨.value (.func 16), #[(.tmp 22)], #[22]⟩, none⟩,
    ⟨(some 24), .move (.tmp 1), none⟩,
    ⟨(some 25), .call ⟨.value (.func 37), #[(.tmp 23), (.tmp 24)], #[25, 3]⟩, none⟩,
    ⟨(some 21), .move (.tmp 25), none⟩,
    ⟨(some 26), .extract (.tmp 21) 0, none⟩,
    ⟨(some 27), .extract (.tmp 21) 1, none⟩,
    ⟨(some 6), .assign (.tmp 26), none⟩,
    ⟨(some 7), .assign (.tmp 27), none⟩] [0, 1, 6, 7])
  (.seq (.reg [⟨(some 28), .move (.tmp 0), none⟩,
    ⟨(some 29), .call ⟨.value (.func 16), #[(.tmp 28)], #[22]⟩, none⟩,
    ⟨(some 8), .assign (.tmp 29), none⟩] [0, 1, 6, 7, 8])
  (.seq (.reg [⟨(some 31), .move (.tmp 8), none⟩,
    ⟨(some 32), .move (.tmp 1), none⟩,
    ⟨(some 33), .call ⟨.value (.func 38), #[(.tmp 31), (.tmp 32)], #[25, 3]⟩, none⟩,
    ⟨(some 30), .move (.tmp 33), none⟩,
    ⟨(some 34), .extract (.tmp 30) 0, none⟩,
    ⟨(some 35), .extract (.tmp 30) 1, none⟩,
    ⟨(some 9), .assign (.tmp 34), none⟩,
    ⟨(some 10), .assign (.tmp 35), none⟩] [0, 1, 6, 7, 8, 9, 10])
  (.seq (.seq (.reg [⟨(some 36), .move (.tmp 9), none⟩,
    ⟨(some 37), .move (.tmp 6), none⟩,
    ⟨(some 38), .call ⟨.value (.func 39), #[(.tmp 36), (.tmp 37)], #[47, 47]⟩, none⟩,
    ⟨(some 39), .unOp .not 4 (.tmp 38), none⟩,
    ⟨(some 40), .move (.tmp 39), none⟩,
    ⟨(some 41), .move (.tmp 10), (some (some 40, false))⟩,
    ⟨(some 42), .move (.tmp 7), (some (some 40, false))⟩,
    ⟨(some 43), .binOp .neq 4 (.tmp 41) (.tmp 42) 4, (some (some 40, false))⟩,
    ⟨(some 44), .pick (.tmp 40) (.const (.bool true)) (.tmp 43), none⟩] [0, 1, 6, 7, 8, 9, 10, 44])
  (.cond (.tmp 44) (.seq (.reg [⟨(some 4), .assign (.const (.bool false)), none⟩] [4])
  .ret)
  .skip))
  (.seq (.seq (.reg [⟨(some 45), .move (.tmp 8), none⟩,
    ⟨(some 46), .move (.tmp 0), none⟩,
    ⟨(some 47), .call ⟨.value (.func 16), #[(.tmp 46)], #[22]⟩, none⟩,
    ⟨(some 48), .call ⟨.value (.func 18), #[(.tmp 45), (.tmp 47)], #[25, 25]⟩, none⟩,
    ⟨(some 49), .unOp .not 4 (.tmp 48), none⟩] [0, 1, 6, 7, 8, 9, 10, 49])
  (.cond (.tmp 49) (.seq (.reg [⟨(some 4), .assign (.const (.bool false)), none⟩] [4])
  .ret)
  .skip))
  (.seq (.reg [⟨(some 11), .assign (.const (.int .i64 1)), none⟩] [0, 1, 6, 7, 8, 9, 10, 11])
  (.seq (.reg [⟨(some 50), .move (.tmp 8), none⟩,
    ⟨(some 51), .move (.tmp 11), none⟩,
    ⟨(some 52), .call ⟨.value (.func 27), #[(.tmp 50), (.tmp 51)], #[25, 3]⟩, none⟩,
    ⟨(some 11), .assign (.tmp 52), none⟩] [0, 1, 6, 7, 9, 10, 11])
  (.seq (.seq (.reg [⟨(some 53), .move (.tmp 11), none⟩,
    ⟨(some 54), .binOp .lss 3 (.tmp 53) (.const (.int .i64 0)) 3, none⟩,
    ⟨(some 55), .move (.tmp 54), none⟩,
    ⟨(some 56), .move (.tmp 9), (some (some 55, false))⟩,
    ⟨(some 57), .move (.tmp 6), (some (some 55, false))⟩,
    ⟨(some 58), .call ⟨.value (.func 39), #[(.tmp 56), (.tmp 57)], #[47, 47]⟩, (some (some 55, false))⟩,
    ⟨(some 59), .unOp .not 4 (.tmp 58), (some (some 55, false))⟩,
    ⟨(some 60), .pick (.tmp 55) (.const (.bool true)) (.tmp 59), none⟩,
    ⟨(some 61), .move (.tmp 60), none⟩,
    ⟨(some 62), .move (.tmp 10), (some (some 61, false))⟩,
    ⟨(some 63), .move (.tmp 7), (some (some 61, false))⟩,
    ⟨(some 64), .binOp .neq 4 (.tmp 62) (.tmp 63) 4, (some (some 61, false))⟩,
    ⟨(some 65), .pick (.tmp 61) (.const (.bool true)) (.tmp 64), none⟩] [0, 1, 6, 7, 9, 65])
  (.cond (.tmp 65) (.seq (.reg [⟨(some 4), .assign (.const (.bool false)), none⟩] [4])
  .ret)
  .skip))
  (.seq (.reg [⟨(some 12), .assign (.const (.int .i64 1)), none⟩] [0, 1, 6, 7, 9, 12])
  (.seq (.reg [⟨(some 66), .move (.tmp 9), none⟩,
    ⟨(some 67), .move (.tmp 12), none⟩,
    ⟨(some 68), .call ⟨.value (.func 40), #[(.tmp 66), (.tmp 67)], #[47, 3]⟩, none⟩,
    ⟨(some 12), .assign (.tmp 68), none⟩] [0, 1, 6, 7, 9, 12])
  (.seq (.reg [⟨(some 13), .assign (.const (.int .i64 1)), none⟩] [0, 1, 6, 7, 9, 12, 13])
  (.seq (.reg [⟨(some 69), .move (.tmp 9), none⟩,
    ⟨(some 70), .move (.tmp 13), none⟩,
    ⟨(some 71), .call ⟨.value (.func 41), #[(.tmp 69), (.tmp 70)], #[47, 3]⟩, none⟩,
    ⟨(some 13), .assign (.tmp 71), none⟩] [0, 1, 6, 7, 9, 12, 13])
  (.seq (.seq (.reg [⟨(some 72), .move (.tmp 13), none⟩,
    ⟨(some 73), .binOp .lss 3 (.tmp 72) (.const (.int .i64 0)) 3, none⟩] [0, 1, 6, 7, 9, 12, 13, 73])
  (.cond (.tmp 73) (.seq (.reg [⟨(some 4), .assign (.const (.bool false)), none⟩] [4])
  .ret)
  .skip))
  (.seq (.seq (.reg [⟨(some 74), .move (.tmp 13), none⟩,
    ⟨(some 75), .move (.tmp 12), none⟩,
    ⟨(some 76), .binOp .neq 3 (.tmp 74) (.tmp 75) 3, none⟩] [0, 1, 6, 7, 9, 12, 76])
  (.cond (.tmp 76) (.seq (.reg [⟨(some 4), .assign (.const (.bool false)), none⟩] [4])
  .ret)
  .skip))
  (.seq (.reg [⟨(some 78), .move (.tmp 0), none⟩,
    ⟨(some 79), .call ⟨.value (.func 16), #[(.tmp 78)], #[22]⟩, none⟩,
    ⟨(some 80), .move (.tmp 1), none⟩,
    ⟨(some 81), .call ⟨.value (.func 38), #[(.tmp 79), (.tmp 80)], #[25, 3]⟩, none⟩,
    ⟨(some 77), .move (.tmp 81), none⟩,
    ⟨(some 82), .extract (.tmp 77) 0, none⟩,
    ⟨(some 83), .extract (.tmp 77) 1, none⟩,
    ⟨(some 14), .assign (.tmp 82), none⟩,
    ⟨(some 15), .assign (.tmp 83), none⟩] [6, 7, 9, 12, 14, 15])
  (.seq (.seq (.reg [⟨(some 84), .move (.tmp 14), none⟩,
    ⟨(some 85), .move (.tmp 6), none⟩,
    ⟨(some 86), .call ⟨.value (.func 39), #[(.tmp 84), (.tmp 85)], #[47, 47]⟩, none⟩,
    ⟨(some 87), .unOp .not 4 (.tmp 86), none⟩,
    ⟨(some 88), .move (.tmp 87), none⟩,
    ⟨(some 89), .move (.tmp 15), (some (some 88, false))⟩,
    ⟨(some 90), .move (.tmp 7), (some (some 88, false))⟩,
    ⟨(some 91), .binOp .neq 4 (.tmp 89) (.tmp 90) 4, (some (some 88, false))⟩,
    ⟨(some 92), .pick (.tmp 88) (.const (.bool true)) (.tmp 91), none⟩] [9, 12, 92])
  (.cond (.tmp 92) (.seq (.reg [⟨(some 4), .assign (.const (.bool false)), none⟩] [4])
  .ret)
  .skip))
  (.seq (.reg [⟨(some 13), .assign (.const (.int .i64 1)), none⟩] [9, 12, 13])
  (.seq (.reg [⟨(some 93), .move (.tmp 9), none⟩,
    ⟨(some 94), .move (.tmp 13), none⟩,
    ⟨(some 95), .call ⟨.value (.func 41), #[(.tmp 93), (.tmp 94)], #[47, 3]⟩, none⟩,
    ⟨(some 13), .assign (.tmp 95), none⟩] [12, 13])
  (.seq (.seq (.reg [⟨(some 96), .move (.tmp 13), none⟩,
    ⟨(some 97), .binOp .lss 3 (.tmp 96) (.const (.int .i64 0)) 3, none⟩] [12, 13, 97])
  (.cond (.tmp 97) (.seq (.reg [⟨(some 4), .assign (.const (.bool false)), none⟩] [4])
  .ret)
  .skip))
  (.seq (.seq (.reg [⟨(some 98), .move (.tmp 13), none⟩,
    ⟨(some 99), .move (.tmp 12), none⟩,
    ⟨(some 100), .binOp .neq 3 (.tmp 98) (.tmp 99) 3, none⟩] [100])
  (.cond (.tmp 100) (.seq (.reg [⟨(some 4), .assign (.const (.bool false)), none⟩] [4])
  .ret)
  .skip))
  (.seq (.reg [⟨(some 4), .assign (.const (.bool true)), none⟩] [4])
  .ret)))))))))))))))))))))))))
theorem laws_FnExactCoversSeen_k : fnOk Try.prog (fun _ => false) 10 = some (laws_FnExactCoversSeen_c.strip, 101, [.tmp 4]) := by kernel_rfl
/-- loop.example/g01062/laws.FnExactTraitsSeen: number 11, params [0, 1, 2] -/
def laws_FnExactTraitsSeen_c : ACode := (.seq (.reg [⟨(some 6), .assign (.const (.bool false)), none⟩] [0, 1, 2])
  (.seq (.reg [⟨(some 7), .assign (.const (.int .i64 1048576)), none⟩] [0, 1, 2, 7])
  (.seq (.reg [⟨(some 18), .move (.tmp 0), none⟩,
    ⟨(some 19), .move (.tmp 7), none⟩,
    ⟨(some 20), .call ⟨.value (.func 14), #[(.tmp 18), (.tmp 19)], #[22, 3]⟩, none⟩,
    ⟨(some 7), .assign (.tmp 20), none⟩] [0, 1, 2, 7])
  (.seq (.seq (.reg [⟨(some 21), .move (.tmp 7), none⟩,
    ⟨(some 22), .binOp .lss 3 (.tmp 21) (.const (.int .i64 0)) 3, none⟩] [0, 1, 2, 22])
  (.cond (.tmp 22) (.seq (.reg [⟨(some 6), .assign (.const (.bool true)), none⟩] [6])
  .ret)
  .skip))
  (.seq (.reg [⟨(some 24), .move (.tmp 0), none⟩,
    ⟨(some 25), .call ⟨.value (.func 16), #[(.tmp 24)], #[22]⟩, none⟩,
    ⟨(some 26), .move (.tmp 1), none⟩,
    ⟨(some 27), .move (.tmp 2), none⟩,
    ⟨(some 28), .call ⟨.value (.func 42), #[(.tmp 25), (.tmp 26), (.tmp 27)], #[25, 3, 3]⟩, none⟩,
    ⟨(some 23), .move (.tmp 28), none⟩,
    ⟨(some 29), .extract (.tmp 23) 0, none⟩,
    ⟨(some 30), .extract (.tmp 23) 1, none⟩,
    ⟨(some 8), .assign (.tmp 29), none⟩,
    ⟨(some 9), .assign (.tmp 30), none⟩] [0, 1, 2, 8, 9])
  (.seq (.reg [⟨(some 31), .move (.tmp 0), none⟩,
    ⟨(some 32), .call ⟨.value (.func 16), #[(.tmp 31)], #[22]⟩, none⟩,
    ⟨(some 10), .assign (.tmp 32), none⟩] [0, 1, 2, 8, 9, 10])
  (.seq (.reg [⟨(some 34), .move (.tmp 10), none⟩,
    ⟨(some 35), .move (.tmp 1), none⟩,
    ⟨(some 36), .move (.tmp 2), none⟩,
    ⟨(some 37), .call ⟨.value (.func 43), #[(.tmp 34), (.tmp 35), (.tmp 36)], #[25, 3, 3]⟩, none⟩,
    ⟨(some 33), .move (.tmp 37), none⟩,
    ⟨(some 38), .extract (.tmp 33) 0, none⟩,
    ⟨(some 39), .extract (.tmp 33) 1, none⟩,
    ⟨(some 11), .assign (.tmp 38), none⟩,
    ⟨(some 12), .assign (.tmp 39), none⟩] [0, 1, 2, 8, 9, 10, 11, 12])
  (.seq (.seq (.reg [⟨(some 40), .move (.tmp 11), none⟩,
    ⟨(some 41), .move (.tmp 8), none⟩,
    ⟨(some 42), .call ⟨.value (.func 26), #[(.tmp 40), (.tmp 41)], #[34, 34]⟩, none⟩,
    ⟨(some 43), .unOp .not 4 (.tmp 42), none⟩,
    ⟨(some 44), .move (.tmp 43), none⟩,
    ⟨(some 45), .move (.tmp 12), (some (some 44, false))⟩,
    ⟨(some 46), .move (.tmp 9), (some (some 44, false))⟩,
    ⟨(some 47), .binOp .neq 4 (.tmp 45) (.tmp 46) 4, (some (some 44, false))⟩,
    ⟨(some 48), .pick (.tmp 44) (.const (.bool true)) (.tmp 47), none⟩] [0, 1, 2, 8, 9, 10, 11, 12, 48])
  (.cond (.tmp 48) (.seq (.reg [⟨(some 6), .assign (.const (.bool false)), none⟩] [6])
  .ret)
  .skip))
  (.seq (.seq (.reg [⟨(some 49), .move (.tmp 10), none⟩,
    ⟨(some 50), .move (.tmp 0), none⟩,
    ⟨(some 51), .call ⟨.value (.func 16), #[(.tmp 50)], #[22]⟩, none⟩,
    ⟨(some 52), .call ⟨.value (.func 18), #[(.tmp 49), (.tmp 51)], #[25, 25]⟩, none⟩,
    ⟨(some 53), .unOp .not 4 (.tmp 52), none⟩] [0, 1, 2, 8, 9, 10, 11, 12, 53])
  (.cond (.tmp 53) (.seq (.reg [⟨(some 6), .assign (.const (.bool false)), none⟩] [6])
  .ret)
  .skip))
  (.seq (.reg [⟨(some 13), .assign (.const (.int .i64 1)), none⟩] [0, 1, 2, 8, 9, 10, 11, 12, 13])
  (.seq (.reg [⟨(some 54), .move (.tmp 10), none⟩,
    ⟨(some 55), .move (.tmp 13), none⟩,
    ⟨(some 56), .call ⟨.value (.func 27), #[(.tmp 54), (.tmp 55)], #[25, 3]⟩, none⟩,
    ⟨(some 13), .assign (.tmp 56), none⟩] [0, 1, 2, 8, 9, 11, 12, 13])
  (.seq (.seq (.reg [⟨(some 57), .move (.tmp 13), none⟩,
    ⟨(some 58), .binOp .lss 3 (.tmp 57) (.const (.int .i64 0)) 3, none⟩,
    ⟨(some 59), .move (.tmp 58), none⟩,
    ⟨(some 60), .move (.tmp 11), (some (some 59, false))⟩,
    ⟨(some 61), .move (.tmp 8), (some (some 59, false))⟩,
    ⟨(some 62), .call ⟨.value (.func 26), #[(.tmp 60), (.tmp 61)], #[34, 34]⟩, (some (some 59, false))⟩,
    ⟨(some 63), .unOp .not 4 (.tmp 62), (some (some 59, false))⟩,
    ⟨(some 64), .pick (.tmp 59) (.const (.bool true)) (.tmp 63), none⟩,
    ⟨(some 65), .move (.tmp 64), none⟩,
    ⟨(some 66), .move (.tmp 12), (some (some 65, false))⟩,
    ⟨(some 67), .move (.tmp 9), (some (some 65, false))⟩,
    ⟨(some 68), .binOp .neq 4 (.tmp 66) (.tmp 67) 4, (some (some 65, false))⟩,
    ⟨(some 69), .pick (.tmp 65) (.const (.bool true)) (.tmp 68), none⟩] [0, 1, 2, 8, 9, 11, 69])
  (.cond (.tmp 69) (.seq (.reg [⟨(some 6), .assign (.const (.bool false)), none⟩] [6])
  .ret)
  .skip))
  (.seq (.reg [⟨(some 14), .assign (.const (.int .i64 1)), none⟩] [0, 1, 2, 8, 9, 11, 14])
  (.seq (.reg [⟨(some 70), .move (.tmp 11), none⟩,
    ⟨(some 71), .move (.tmp 14), none⟩,
    ⟨(some 72), .call ⟨.value (.func 28), #[(.tmp 70), (.tmp 71)], #[34, 3]⟩, none⟩,
    ⟨(some 14), .assign (.tmp 72), none⟩] [0, 1, 2, 8, 9, 11, 14])
  (.seq (.reg [⟨(some 15), .assign (.const (.int .i64 1)), none⟩] [0, 1, 2, 8, 9, 11, 14, 15])
  (.seq (.reg [⟨(some 73), .move (.tmp 11), none⟩,
    ⟨(some 74), .move (.tmp 15), none⟩,
    ⟨(some 75), .call ⟨.value (.func 34), #[(.tmp 73), (.tmp 74)], #[34, 3]⟩, none⟩,
    ⟨(some 15), .assign (.tmp 75), none⟩] [0, 1, 2, 8, 9, 11, 14, 15])
  (.seq (.seq (.reg [⟨(some 76), .move (.tmp 15), none⟩,
    ⟨(some 77), .binOp .lss 3 (.tmp 76) (.const (.int .i64 0)) 3, none⟩] [0, 1, 2, 8, 9, 11, 14, 15, 77])
  (.cond (.tmp 77) (.seq (.reg [⟨(some 6), .assign (.const (.bool false)), none⟩] [6])
  .ret)
  .skip))
  (.seq (.seq (.reg [⟨(some 78), .move (.tmp 15), none⟩,
    ⟨(some 79), .move (.tmp 14), none⟩,
    ⟨(some 80), .binOp .neq 3 (.tmp 78) (.tmp 79) 3, none⟩] [0, 1, 2, 8, 9, 11, 14, 80])
  (.cond (.tmp 80) (.seq (.reg [⟨(some 6), .assign (.const (.bool false)), none⟩] [6])
  .ret)
  .skip))
  (.seq (.reg [⟨(some 82), .move (.tmp 0), none⟩,
    ⟨(some 83), .call ⟨.value (.func 16), #[(.tmp 82)], #[22]⟩, none⟩,
    ⟨(some 84), .move (.tmp 1), none⟩,
    ⟨(some 85), .move (.tmp 2), none⟩,
    ⟨(some 86), .call ⟨.value (.func 43), #[(.tmp 83), (.tmp 84), (.tmp 85)], #[25, 3, 3]⟩, none⟩,
    ⟨(some 81), .move (.tmp 86), none⟩,
    ⟨(some 87), .extract (.tmp 81) 0, none⟩,
    ⟨(some 88), .extract (.tmp 81) 1, none⟩,
    ⟨(some 16), .assign (.tmp 87), none⟩,
    ⟨(some 17), .assign (.tmp 88), none⟩] [8, 9, 11, 14, 16, 17])
  (.seq (.seq (.reg [⟨(some 89), .move (.tmp 16), none⟩,
    ⟨(some 90), .move (.tmp 8), none⟩,
    ⟨(some 91), .call ⟨.value (.func 26), #[(.tmp 89), (.tmp 90)], #[34, 34]⟩, none⟩,
    ⟨(some 92), .unOp .not 4 (.tmp 91), none⟩,
    ⟨(some 93), .move (.tmp 92), none⟩,
    ⟨(some 94), .move (.tmp 17), (some (some 93, false))⟩,
    ⟨(some 95), .move (.tmp 9), (some (some 93, false))⟩,
    ⟨(some 96), .binOp .neq 4 (.tmp 94) (.tmp 95) 4, (some (some 93, false))⟩,
    ⟨(some 97), .pick (.tmp 93) (.const (.bool true)) (.tmp 96), none⟩] [11, 14, 97])
  (.cond (.tmp 97) (.seq (.reg [⟨(some 6), .assign (.const (.bool false)), none⟩] [6])
  .ret)
  .skip))
  (.seq (.reg [⟨(some 15), .assign (.const (.int .i64 1)), none⟩] [11, 14, 15])
  (.seq (.reg [⟨(some 98), .move (.tmp 11), none⟩,
    ⟨(some 99), .move (.tmp 15), none⟩,
    ⟨(some 100), .call ⟨.value (.func 34), #[(.tmp 98), (.tmp 99)], #[34, 3]⟩, none⟩,
    ⟨(some 15), .assign (.tmp 100), none⟩] [14, 15])
  (.seq (.seq (.reg [⟨(some 101), .move (.tmp 15), none⟩,
    ⟨(some 102), .binOp .lss 3 (.tmp 101) (.const (.int .i64 0)) 3, none⟩] [14, 15, 102])
  (.cond (.tmp 102) (.seq (.reg [⟨(some 6), .assign (.const (.bool false)), none⟩] [6])
  .ret)
  .skip))
  (.seq (.seq (.reg [⟨(some 103), .move (.tmp 15), none⟩,
    ⟨(some 104), .move (.tmp 14), none⟩,
    ⟨(some 105), .binOp .neq 3 (.tmp 103) (.tmp 104) 3, none⟩] [105])
  (.cond (.tmp 105) (.seq (.reg [⟨(some 6), .assign (.const (.bool false)), none⟩] [6])
  .ret)
  .skip))
  (.seq (.reg [⟨(some 6), .assign (.const (.bool true)), none⟩] [6])
  .ret)))))))))))))))))))))))))
theorem laws_FnExactTraitsSeen_k : fnOk Try.prog (fun _ => false) 11 = some (laws_FnExactTraitsSeen_c.strip, 106, [.tmp 6]) := by kernel_rfl
/-- loop.example/g01062/laws.FnExactDoubtfulPairs: number 12, params [0, 1] -/
def laws_FnExactDoubtfulPairs_c : ACode := (.seq (.reg [⟨(some 4), .assign (.const (.bool false)), none⟩] [0, 1])
  (.seq (.reg [⟨(some 5), .assign (.const (.int .i64 1048576)), none⟩] [0, 1, 5])
  (.seq (.reg [⟨(some 16), .move (.tmp 0), none⟩,
    ⟨(some 17), .move (.tmp 5), none⟩,
    ⟨(some 18), .call ⟨.value (.func 14), #[(.tmp 16), (.tmp 17)], #[22, 3]⟩, none⟩,
    ⟨(some 5), .assign (.tmp 18), none⟩] [0, 1, 5])
  (.seq (.seq (.reg [⟨(some 19), .move (.tmp 5), none⟩,
    ⟨(some 20), .binOp .lss 3 (.tmp 19) (.const (.int .i64 0)) 3, none⟩] [0, 1, 20])
  (.cond (.tmp 20) (.seq (.reg [⟨(some 4), .assign (.const (.bool true)), none⟩] [4])
  .ret)
  .skip))
  (.seq (.reg [⟨(some 22), .move (.tmp 0), none⟩,
    ⟨(some 23), .call ⟨.value (.func 16), #[(.tmp 22)], #[22]⟩, none⟩,
    ⟨(some 24), .move (.tmp 1), none⟩,
    ⟨(some 25), .call ⟨.value (.func 44), #[(.tmp 23), (.tmp 24)], #[25, 3]⟩, none⟩,
    ⟨(some 21), .move (.tmp 25), none⟩,
    ⟨(some 26), .extract (.tmp 21) 0, none⟩,
    ⟨(some 27), .extract (.tmp 21) 1, none⟩,
    ⟨(some 6), .assign (.tmp 26), none⟩,
    ⟨(some 7), .assign (.tmp 27), none⟩] [0, 1, 6, 7])
  (.seq (.reg [⟨(some 28), .move (.tmp 0), none⟩,
    ⟨(some 29), .call ⟨.value (.func 16), #[(.tmp 28)], #[22]⟩, none⟩,
    ⟨(some 8), .assign (.tmp 29), none⟩] [0, 1, 6, 7, 8])
  (.seq (.reg [⟨(some 31), .move (.tmp 8), none⟩,
    ⟨(some 32), .move (.tmp 1), none⟩,
    ⟨(some 33), .call ⟨.value (.func 45), #[(.tmp 31), (.tmp 32)], #[25, 3]⟩, none⟩,
    ⟨(some 30), .move (.tmp 33), none⟩,
    ⟨(some 34), .extract (.tmp 30) 0, none⟩,
    ⟨(some 35), .extract (.tmp 30) 1, none⟩,
    ⟨(some 9), .assign (.tmp 34), none⟩,
    ⟨(some 10), .assign (.tmp 35), none⟩] [0, 1, 6, 7, 8, 9, 10])
  (.seq (.seq (.reg [⟨(some 36), .move (.tmp 9), none⟩,
    ⟨(some 37), .move (.tmp 6), none⟩,
    ⟨(some 38), .call ⟨.value (.func 39), #[(.tmp 36), (.tmp 37)], #[47, 47]⟩, none⟩,
    ⟨(some 39), .unOp .not 4 (.tmp 38), none⟩,
    ⟨(some 40), .move (.tmp 39), none⟩,
    ⟨(some 41), .move (.tmp 10), (some (some 40, false))⟩,
    ⟨(some 42), .move (.tmp 7), (some (some 40, false))⟩,
    ⟨(some 43), .binOp .neq 4 (.tmp 41) (.tmp 42) 4, (some (some 40, false))⟩,
    ⟨(some 44), .pick (.tmp 40) (.const (.bool true)) (.tmp 43), none⟩] [0, 1, 6, 7, 8, 9, 10, 44])
  (.cond (.tmp 44) (.seq (.reg [⟨(some 4), .assign (.const (.bool false)), none⟩] [4])
  .ret)
  .skip))
  (.seq (.seq (.reg [⟨(some 45), .move (.tmp 8), none⟩,
    ⟨(some 46), .move (.tmp 0), none⟩,
    ⟨(some 47), .call ⟨.value (.func 16), #[(.tmp 46)], #[22]⟩, none⟩,
    ⟨(some 48), .call ⟨.value (.func 18), #[(.tmp 45), (.tmp 47)], #[25, 25]⟩, none⟩,
    ⟨(some 49), .unOp .not 4 (.tmp 48), none⟩] [0, 1, 6, 7, 8, 9, 10, 49])
  (.cond (.tmp 49) (.seq (.reg [⟨(some 4), .assign (.const (.bool false)), none⟩] [4])
  .ret)
  .skip))
  (.seq (.reg [⟨(some 11), .assign (.const (.int .i64 1)), none⟩] [0, 1, 6, 7, 8, 9, 10, 11])
  (.seq (.reg [⟨(some 50), .move (.tmp 8), none⟩,
    ⟨(some 51), .move (.tmp 11), none⟩,
    ⟨(some 52), .call ⟨.value (.func 27), #[(.tmp 50), (.tmp 51)], #[25, 3]⟩, none⟩,
    ⟨(some 11), .assign (.tmp 52), none⟩] [0, 1, 6, 7, 9, 10, 11])
  (.seq (.seq (.reg [⟨(some 53), .move (.tmp 11), none⟩,
    ⟨(some 54), .binOp .lss 3 (.tmp 53) (.const (.int .i64 0)) 3, none⟩,
    ⟨(some 55), .move (.tmp 54), none⟩,
    ⟨(some 56), .move (.tmp 9), (some (some 55, false))⟩,
    ⟨(some 57), .move (.tmp 6), (some (some 55, false))⟩,
    ⟨(some 58), .call ⟨.value (.func 39), #[(.tmp 56), (.tmp 57)], #[47, 47]⟩, (some (some 55, false))⟩,
    ⟨(some 59), .unOp .not 4 (.tmp 58), (some (some 55, false))⟩,
    ⟨(some 60), .pick (.tmp 55) (.const (.bool true)) (.tmp 59), none⟩,
    ⟨(some 61), .move (.tmp 60), none⟩,
    ⟨(some 62), .move (.tmp 10), (some (some 61, false))⟩,
    ⟨(some 63), .move (.tmp 7), (some (some 61, false))⟩,
    ⟨(some 64), .binOp .neq 4 (.tmp 62) (.tmp 63) 4, (some (some 61, false))⟩,
    ⟨(some 65), .pick (.tmp 61) (.const (.bool true)) (.tmp 64), none⟩] [0, 1, 6, 7, 9, 65])
  (.cond (.tmp 65) (.seq (.reg [⟨(some 4), .assign (.const (.bool false)), none⟩] [4])
  .ret)
  .skip))
  (.seq (.reg [⟨(some 12), .assign (.const (.int .i64 1)), none⟩] [0, 1, 6, 7, 9, 12])
  (.seq (.reg [⟨(some 66), .move (.tmp 9), none⟩,
    ⟨(some 67), .move (.tmp 12), none⟩,
    ⟨(some 68), .call ⟨.value (.func 40), #[(.tmp 66), (.tmp 67)], #[47, 3]⟩, none⟩,
    ⟨(some 12), .assign (.tmp 68), none⟩] [0, 1, 6, 7, 9, 12])
  (.seq (.reg [⟨(some 13), .assign (.const (.int .i64 1)), none⟩] [0, 1, 6, 7, 9, 12, 13])
  (.seq (.reg [⟨(some 69), .move (.tmp 9), none⟩,
    ⟨(some 70), .move (.tmp 13), none⟩,
    ⟨(some 71), .call ⟨.value (.func 41), #[(.tmp 69), (.tmp 70)], #[47, 3]⟩, none⟩,
    ⟨(some 13), .assign (.tmp 71), none⟩] [0, 1, 6, 7, 9, 12, 13])
  (.seq (.seq (.reg [⟨(some 72), .move (.tmp 13), none⟩,
    ⟨(some 73), .binOp .lss 3 (.tmp 72) (.const (.int .i64 0)) 3, none⟩] [0, 1, 6, 7, 9, 12, 13, 73])
  (.cond (.tmp 73) (.seq (.reg [⟨(some 4), .assign (.const (.bool false)), none⟩] [4])
  .ret)
  .skip))
  (.seq (.seq (.reg [⟨(some 74), .move (.tmp 13), none⟩,
    ⟨(some 75), .move (.tmp 12), none⟩,
    ⟨(some 76), .binOp .neq 3 (.tmp 74) (.tmp 75) 3, none⟩] [0, 1, 6, 7, 9, 12, 76])
  (.cond (.tmp 76) (.seq (.reg [⟨(some 4), .assign (.const (.bool false)), none⟩] [4])
  .ret)
  .skip))
  (.seq (.reg [⟨(some 78), .move (.tmp 0), none⟩,
    ⟨(some 79), .call ⟨.value (.func 16), #[(.tmp 78)], #[22]⟩, none⟩,
    ⟨(some 80), .move (.tmp 1), none⟩,
    ⟨(some 81), .call ⟨.value (.func 45), #[(.tmp 79), (.tmp 80)], #[25, 3]⟩, none⟩,
    ⟨(some 77), .move (.tmp 81), none⟩,
    ⟨(some 82), .extract (.tmp 77) 0, none⟩,
    ⟨(some 83), .extract (.tmp 77) 1, none⟩,
    ⟨(some 14), .assign (.tmp 82), none⟩,
    ⟨(some 15), .assign (.tmp 83), none⟩] [6, 7, 9, 12, 14, 15])
  (.seq (.seq (.reg [⟨(some 84), .move (.tmp 14), none⟩,
    ⟨(some 85), .move (.tmp 6), none⟩,
    ⟨(some 86), .call ⟨.value (.func 39), #[(.tmp 84), (.tmp 85)], #[47, 47]⟩, none⟩,
    ⟨(some 87), .unOp .not 4 (.tmp 86), none⟩,
    ⟨(some 88), .move (.tmp 87), none⟩,
    ⟨(some 89), .move (.tmp 15), (some (some 88, false))⟩,
    ⟨(some 90), .move (.tmp 7), (some (some 88, false))⟩,
    ⟨(some 91), .binOp .neq 4 (.tmp 89) (.tmp 90) 4, (some (some 88, false))⟩,
    ⟨(some 92), .pick (.tmp 88) (.const (.bool true)) (.tmp 91), none⟩] [9, 12, 92])
  (.cond (.tmp 92) (.seq (.reg [⟨(some 4), .assign (.const (.bool false)), none⟩] [4])
  .ret)
  .skip))
  (.seq (.reg [⟨(some 13), .assign (.const (.int .i64 1)), none⟩] [9, 12, 13])
  (.seq (.reg [⟨(some 93), .move (.tmp 9), none⟩,
    ⟨(some 94), .move (.tmp 13), none⟩,
    ⟨(some 95), .call ⟨.value (.func 41), #[(.tmp 93), (.tmp 94)], #[47, 3]⟩, none⟩,
    ⟨(some 13), .assign (.tmp 95), none⟩] [12, 13])
  (.seq (.seq (.reg [⟨(some 96), .move (.tmp 13), none⟩,
    ⟨(some 97), .binOp .lss 3 (.tmp 96) (.const (.int .i64 0)) 3, none⟩] [12, 13, 97])
  (.cond (.tmp 97) (.seq (.reg [⟨(some 4), .assign (.const (.bool false)), none⟩] [4])
  .ret)
  .skip))
  (.seq (.seq (.reg [⟨(some 98), .move (.tmp 13), none⟩,
    ⟨(some 99), .move (.tmp 12), none⟩,
    ⟨(some 100), .binOp .neq 3 (.tmp 98) (.tmp 99) 3, none⟩] [100])
  (.cond (.tmp 100) (.seq (.reg [⟨(some 4), .assign (.const (.bool false)), none⟩] [4])
  .ret)
  .skip))
  (.seq (.reg [⟨(some 4), .assign (.const (.bool true)), none⟩] [4])
  .ret)))))))))))))))))))))))))
theorem laws_FnExactDoubtfulPairs_k : fnOk Try.prog (fun _ => false) 12 = some (laws_FnExactDoubtfulPairs_c.strip, 101, [.tmp 4]) := by kernel_rfl
/-- head: [0, 1, 5] -/
def laws_szSightingS_l0 : ACode := (.seq (.seq (.reg [⟨(some 12), .move (.tmp 5), none⟩,
    ⟨(some 13), .move (.tmp 0), none⟩,
    ⟨(some 14), .call ⟨.builtin .len, #[(.tmp 13)], #[22]⟩, none⟩,
    ⟨(some 15), .binOp .lss 3 (.tmp 12) (.tmp 14) 3, none⟩] [0, 1, 5, 15])
  (.cond (.tmp 15) .skip
  (.exit 0)))
  (.seq (.block 1 (.seq (.reg [⟨(some 18), .move (.tmp 0), none⟩,
    ⟨(some 19), .move (.tmp 5), none⟩,
    ⟨(some 20), .indexAddr 22 (.tmp 18) (.tmp 19), none⟩,
    ⟨(some 21), .load 62 (.tmp 20), none⟩,
    ⟨(some 22), .move (.tmp 1), none⟩,
    ⟨(some 23), .call ⟨.value (.func 52), #[(.tmp 21), (.tmp 22)], #[62, 3]⟩, none⟩,
    ⟨(some 1), .assign (.tmp 23), none⟩] [0, 1, 5])
  (.seq (.reg [⟨(some 24), .move (.tmp 1), none⟩,
    ⟨(some 25), .binOp .lss 3 (.tmp 24) (.const (.int .i64 0)) 3, none⟩] [0, 1, 5, 25])
  (.cond (.tmp 25) (.seq (.reg [⟨(some 4), .assign (.const (.int .i64 (-1))), none⟩] [4])
  .ret)
  .skip))))
  (.reg [⟨(some 16), .move (.tmp 5), none⟩,
    ⟨(some 17), .binOp .add 3 (.tmp 16) (.const (.int .i64 1)) 3, none⟩,
    ⟨(some 5), .assign (.tmp 17), none⟩] [0, 1, 5])))
/-- loop.example/g01062/laws.szSightingS: number 14, params [0, 1] -/
def laws_szSightingS_c : ACode := (.seq (.reg [⟨(some 4), .assign (.const (.int .i64 0)), none⟩] [0, 1])
  (.seq (.reg [⟨(some 6), .move (.tmp 1), none⟩,
    ⟨(some 7), .move (.tmp 0), none⟩,
    ⟨(some 8), .call ⟨.builtin .len, #[(.tmp 7)], #[22]⟩, none⟩,
    ⟨(some 9), .binOp .sub 3 (.tmp 6) (.tmp 8) 3, none⟩,
    ⟨(some 1), .assign (.tmp 9), none⟩] [0, 1])
  (.seq (.seq (.reg [⟨(some 10), .move (.tmp 1), none⟩,
    ⟨(some 11), .binOp .lss 3 (.tmp 10) (.const (.int .i64 0)) 3, none⟩] [0, 1, 11])
  (.cond (.tmp 11) (.seq (.reg [⟨(some 4), .assign (.const (.int .i64 (-1))), none⟩] [4])
  .ret)
  .skip))
  (.seq (.seq (.reg [⟨(some 5), .assign (.const (.int .i64 0)), none⟩] [0, 1, 5])
  (.block 0 (.loop laws_szSightingS_l0)))
  (.seq (.reg [⟨(some 26), .move (.tmp 1), none⟩,
    ⟨(some 4), .assign (.tmp 26), none⟩] [4])
  .ret)))))
theorem laws_szSightingS_k : fnOk Try.prog (fun _ => false) 14 = some (laws_szSightingS_c.strip, 27, [.tmp 4]) := by kernel_rfl
/-- loop.example/g01062/spec.AreSightings: number 15, params [0] -/
def spec_AreSightings_c : ACode := (.seq (.reg [⟨(some 2), .assign (.const (.bool false)), none⟩] [0])
  (.seq (.reg [⟨(some 3), .move (.tmp 0), none⟩,
    ⟨(some 4), .call ⟨.value (.func 53), #[(.tmp 3)], #[25]⟩, none⟩,
    ⟨(some 2), .assign (.tmp 4), none⟩] [2])
  .ret))
theorem spec_AreSightings_k : fnOk Try.prog (fun _ => false) 15 = some (spec_AreSightings_c.strip, 5, [.tmp 2]) := by kernel_rfl
/-- head: [0, 3, 4] -/
def laws_toSightingS_l0 : ACode := (.seq (.seq (.reg [⟨(some 8), .move (.tmp 4), none⟩,
    ⟨(some 9), .move (.tmp 0), none⟩,
    ⟨(some 10), .call ⟨.builtin .len, #[(.tmp 9)], #[22]⟩, none⟩,
    ⟨(some 11), .binOp .lss 3 (.tmp 8) (.tmp 10) 3, none⟩] [0, 3, 4, 11])
  (.cond (.tmp 11) .skip
  (.exit 0)))
  (.seq (.block 1 (.reg [⟨(some 14), .move (.tmp 3), none⟩,
    ⟨(some 15), .move (.tmp 4), none⟩,
    ⟨(some 16), .move (.tmp 0), none⟩,
    ⟨(some 17), .move (.tmp 4), none⟩,
    ⟨(some 18), .indexAddr 22 (.tmp 16) (.tmp 17), none⟩,
    ⟨(some 19), .load 62 (.tmp 18), none⟩,
    ⟨(some 20), .call ⟨.value (.func 54), #[(.tmp 19)], #[62]⟩, none⟩,
    ⟨(some 21), .indexAddr 25 (.tmp 14) (.tmp 15), none⟩,
    ⟨none, .store 63 (.tmp 21) (.tmp 20), none⟩] [0, 3, 4]))
  (.reg [⟨(some 12), .move (.tmp 4), none⟩,
    ⟨(some 13), .binOp .add 3 (.tmp 12) (.const (.int .i64 1)) 3, none⟩,
    ⟨(some 4), .assign (.tmp 13), none⟩] [0, 3, 4])))
/-- loop.example/g01062/laws.toSightingS: number 16, params [0] -/
def laws_toSightingS_c : ACode := (.seq (.reg [⟨(some 2), .assign (.const (.slice none 0 0)), none⟩] [0])
  (.seq (.reg [⟨(some 5), .move (.tmp 0), none⟩,
    ⟨(some 6), .call ⟨.builtin .len, #[(.tmp 5)], #[22]⟩, none⟩,
    ⟨(some 7), .makeSlice 25 (.tmp 6) (.tmp 6), none⟩,
    ⟨(some 3), .assign (.tmp 7), none⟩] [0, 3])
  (.seq (.seq (.reg [⟨(some 4), .assign (.const (.int .i64 0)), none⟩] [0, 3, 4])
  (.block 0 (.loop laws_toSightingS_l0)))
  (.seq (.reg [⟨(some 22), .move (.tmp 3), none⟩,
    ⟨(some 2), .assign (.tmp 22), none⟩] [2])
  .ret))))
theorem laws_toSightingS_k : fnOk Try.prog (fun _ => false) 16 = some (laws_toSightingS_c.strip, 23, [.tmp 2]) := by kernel_rfl
/-- loop.example/g01062/impl.AreSightings: number 17, params [0] -/
def impl_AreSightings_c : ACode := (.seq (.reg [⟨(some 2), .assign (.const (.bool false)), none⟩] [0])
  (.seq (.reg [⟨(some 3), .move (.tmp 0), none⟩,
    ⟨(some 4), .call ⟨.value (.func 55), #[(.tmp 3)], #[25]⟩, none⟩,
    ⟨(some 2), .assign (.tmp 4), none⟩] [2])
  .ret))
theorem impl_AreSightings_k : fnOk Try.prog (fun _ => false) 17 = some (impl_AreSightings_c.strip, 5, [.tmp 2]) := by kernel_rfl
/-- head: [0, 1, 5] -/
def laws_eqSightingS_l0 : ACode := (.seq (.seq (.reg [⟨(some 11), .move (.tmp 5), none⟩,
    ⟨(some 12), .move (.tmp 0), none⟩,
    ⟨(some 13), .call ⟨.builtin .len, #[(.tmp 12)], #[25]⟩, none⟩,
    ⟨(some 14), .binOp .lss 3 (.tmp 11) (.tmp 13) 3, none⟩] [0, 1, 5, 14])
  (.cond (.tmp 14) .skip
  (.exit 0)))
  (.seq (.block 1 (.seq (.regQ [⟨(some 17), .move (.tmp 0), none⟩,
    ⟨(some 18), .move (.tmp 5), none⟩,
    ⟨(some 19), .indexAddr 25 (.tmp 17) (.tmp 18), none⟩,
    ⟨(some 20), .load 63 (.tmp 19), none⟩,
    ⟨(some 21), .move (.tmp 1), none⟩,
    ⟨(some 22), .move (.tmp 5), none⟩,
    ⟨(some 23), .indexAddr 25 (.tmp 21) (.tmp 22), none⟩,
    ⟨(some 24), .load 63 (.tmp 23), none⟩,
    ⟨(some 25), .call ⟨.value (.func 56), #[(.tmp 20), (.tmp 24)], #[63, 63]⟩, none⟩,
    ⟨(some 26), .unOp .not 4 (.tmp 25), none⟩] [0, 1, 5, 26])
  (.cond (.tmp 26) (.seq (.reg [⟨(some 4), .assign (.const (.bool false)), none⟩] [4])
  .ret)
  .skip)))
  (.reg [⟨(some 15), .move (.tmp 5), none⟩,
    ⟨(some 16), .binOp .add 3 (.tmp 15) (.const (.int .i64 1)) 3, none⟩,
    ⟨(some 5), .assign (.tmp 16), none⟩] [0, 1, 5])))
/-- loop.example/g01062/laws.eqSightingS: number 18, params [0, 1] -/
def laws_eqSightingS_c : ACode := (.seq (.reg [⟨(some 4), .assign (.const (.bool false)), none⟩] [0, 1])
  (.seq (.seq (.reg [⟨(some 6), .move (.tmp 0), none⟩,
    ⟨(some 7), .call ⟨.builtin .len, #[(.tmp 6)], #[25]⟩, none⟩,
    ⟨(some 8), .move (.tmp 1), none⟩,
    ⟨(some 9), .call ⟨.builtin .len, #[(.tmp 8)], #[25]⟩, none⟩,
    ⟨(some 10), .binOp .neq 3 (.tmp 7) (.tmp 9) 3, none⟩] [0, 1, 10])
  (.cond (.tmp 10) (.seq (.reg [⟨(some 4), .assign (.const (.bool false)), none⟩] [4])
  .ret)
  .skip))
  (.seq (.seq (.reg [⟨(some 5), .assign (.const (.int .i64 0)), none⟩] [0, 1, 5])
  (.block 0 (.loop laws_eqSightingS_l0)))
  (.seq (.reg [⟨(some 4), .assign (.const (.bool true)), none⟩] [4])
  .ret))))
theorem laws_eqSightingS_k : fnOk Try.prog (fun _ => false) 18 = some (laws_eqSightingS_c.strip, 27, [.tmp 4]) := by kernel_rfl
/-- head: [0, 6, 7, 8, 9, 10] -/
def spec_StrongestPair_l0 : ACode := (.seq (.seq (.reg [⟨(some 28), .move (.tmp 10), none⟩,
    ⟨(some 29), .move (.tmp 0), none⟩,
    ⟨(some 30), .call ⟨.builtin .len, #[(.tmp 29)], #[25]⟩, none⟩,
    ⟨(some 31), .binOp .lss 3 (.tmp 28) (.tmp 30) 3, none⟩] [0, 6, 7, 8, 9, 10, 31])
  (.cond (.tmp 31) .skip
  (.exit 2)))
  (.seq (.block 3 (.seq (.regQ [⟨(some 34), .move (.tmp 0), none⟩,
    ⟨(some 35), .move (.tmp 9), none⟩,
    ⟨(some 36), .indexAddr 25 (.tmp 34) (.tmp 35), none⟩,
    ⟨(some 37), .load 63 (.tmp 36), none⟩,
    ⟨(some 38), .move (.tmp 0), none⟩,
    ⟨(some 39), .move (.tmp 10), none⟩,
    ⟨(some 40), .indexAddr 25 (.tmp 38) (.tmp 39), none⟩,
    ⟨(some 41), .load 63 (.tmp 40), none⟩,
    ⟨(some 42), .call ⟨.value (.func 57), #[(.tmp 37), (.tmp 41)], #[63, 63]⟩, none⟩,
    ⟨(some 11), .assign (.tmp 42), none⟩] [0, 6, 7, 8, 9, 10, 11])
  (.seq (.reg [⟨(some 43), .move (.tmp 11), none⟩,
    ⟨(some 44), .move (.tmp 8), none⟩,
    ⟨(some 45), .binOp .gtr 3 (.tmp 43) (.tmp 44) 3, none⟩] [0, 6, 7, 8, 9, 10, 11, 45])
  (.cond (.tmp 45) (.seq (.reg [⟨(some 46), .move (.tmp 0), none⟩,
    ⟨(some 47), .move (.tmp 9), none⟩,
    ⟨(some 48), .indexAddr 25 (.tmp 46) (.tmp 47), none⟩,
    ⟨(some 49), .fieldAddr 63 (.tmp 48) 0, none⟩,
    ⟨(some 50), .load 3 (.tmp 49), none⟩,
    ⟨(some 6), .assign (.tmp 50), none⟩] [0, 6, 9, 10, 11])
  (.seq (.reg [⟨(some 51), .move (.tmp 0), none⟩,
    ⟨(some 52), .move (.tmp 10), none⟩,
    ⟨(some 53), .indexAddr 25 (.tmp 51) (.tmp 52), none⟩,
    ⟨(some 54), .fieldAddr 63 (.tmp 53) 0, none⟩,
    ⟨(some 55), .load 3 (.tmp 54), none⟩,
    ⟨(some 7), .assign (.tmp 55), none⟩] [0, 6, 7, 9, 10, 11])
  (.reg [⟨(some 56), .move (.tmp 11), none⟩,
    ⟨(some 8), .assign (.tmp 56), none⟩] [0, 6, 7, 8, 9, 10])))
  .skip))))
  (.reg [⟨(some 32), .move (.tmp 10), none⟩,
    ⟨(some 33), .binOp .add 3 (.tmp 32) (.const (.int .i64 1)) 3, none⟩,
    ⟨(some 10), .assign (.tmp 33), none⟩] [0, 6, 7, 8, 9, 10])))
/-- head: [0, 6, 7, 8, 9] -/
def spec_StrongestPair_l1 : ACode := (.seq (.seq (.reg [⟨(some 20), .move (.tmp 9), none⟩,
    ⟨(some 21), .move (.tmp 0), none⟩,
    ⟨(some 22), .call ⟨.builtin .len, #[(.tmp 21)], #[25]⟩, none⟩,
    ⟨(some 23), .binOp .lss 3 (.tmp 20) (.tmp 22) 3, none⟩] [0, 6, 7, 8, 9, 23])
  (.cond (.tmp 23) .skip
  (.exit 0)))
  (.seq (.block 1 (.seq (.reg [⟨(some 26), .move (.tmp 9), none⟩,
    ⟨(some 27), .binOp .add 3 (.tmp 26) (.const (.int .i64 1)) 3, none⟩,
    ⟨(some 10), .assign (.tmp 27), none⟩] [0, 6, 7, 8, 9, 10])
  (.block 2 (.loop spec_StrongestPair_l0))))
  (.reg [⟨(some 24), .move (.tmp 9), none⟩,
    ⟨(some 25), .binOp .add 3 (.tmp 24) (.const (.int .i64 1)) 3, none⟩,
    ⟨(some 9), .assign (.tmp 25), none⟩] [0, 6, 7, 8, 9])))
/-- loop.example/g01062/spec.StrongestPair: number 19, params [0] -/
def spec_StrongestPair_c : ACode := (.seq (.reg [⟨(some 2), .assign (.const (.int .i64 0)), none⟩,
    ⟨(some 3), .assign (.const (.int .i64 0)), none⟩,
    ⟨(some 4), .assign (.const (.int .i64 0)), none⟩,
    ⟨(some 5), .assign (.const (.bool false)), none⟩] [0])
  (.seq (.seq (.reg [⟨(some 12), .move (.tmp 0), none⟩,
    ⟨(some 13), .call ⟨.value (.func 53), #[(.tmp 12)], #[25]⟩, none⟩,
    ⟨(some 14), .unOp .not 4 (.tmp 13), none⟩,
    ⟨(some 15), .move (.tmp 14), none⟩,
    ⟨(some 16), .move (.tmp 0), (some (some 15, false))⟩,
    ⟨(some 17), .call ⟨.builtin .len, #[(.tmp 16)], #[25]⟩, (some (some 15, false))⟩,
    ⟨(some 18), .binOp .lss 3 (.tmp 17) (.const (.int .i64 2)) 3, (some (some 15, false))⟩,
    ⟨(some 19), .pick (.tmp 15) (.const (.bool true)) (.tmp 18), none⟩] [0, 19])
  (.cond (.tmp 19) (.seq (.reg [⟨(some 2), .assign (.const (.int .i64 0)), none⟩,
    ⟨(some 3), .assign (.const (.int .i64 0)), none⟩,
    ⟨(some 4), .assign (.const (.int .i64 0)), none⟩,
    ⟨(some 5), .assign (.const (.bool false)), none⟩] [2, 3, 4, 5])
  .ret)
  .skip))
  (.seq (.reg [⟨(some 6), .assign (.const (.int .i64 0)), none⟩,
    ⟨(some 7), .assign (.const (.int .i64 0)), none⟩,
    ⟨(some 8), .assign (.const (.int .i64 (-99))), none⟩] [0, 6, 7, 8])
  (.seq (.seq (.reg [⟨(some 9), .assign (.const (.int .i64 0)), none⟩] [0, 6, 7, 8, 9])
  (.block 0 (.loop spec_StrongestPair_l1)))
  (.seq (.reg [⟨(some 57), .move (.tmp 6), none⟩,
    ⟨(some 58), .move (.tmp 7), none⟩,
    ⟨(some 59), .move (.tmp 8), none⟩,
    ⟨(some 2), .assign (.tmp 57), none⟩,
    ⟨(some 3), .assign (.tmp 58), none⟩,
    ⟨(some 4), .assign (.tmp 59), none⟩,
    ⟨(some 5), .assign (.const (.bool true)), none⟩] [2, 3, 4, 5])
  .ret)))))
theorem spec_StrongestPair_k : fnOk Try.prog (fun _ => false) 19 = some (spec_StrongestPair_c.strip, 60, [.tmp 2, .tmp 3, .tmp 4, .tmp 5]) := by kernel_rfl
/-- head: [0, 6, 7, 8, 10, 22, 23, 24, 32, 33, 34] -/
def impl_StrongestPair_l0 : ACode := (.seq (.reg [⟨(some 35), .binOp .lss 3 (.tmp 34) (.tmp 33) 3, none⟩] [0, 6, 7, 8, 10, 22, 23, 24, 32, 33, 34, 35])
  (.seq (.cond (.tmp 35) .skip
  (.exit 2))
  (.seq (.block 3 (.seq (.reg [⟨(some 36), .indexAddr 25 (.tmp 32) (.tmp 34), none⟩,
    ⟨(some 37), .load 63 (.tmp 36), none⟩,
    ⟨(some 12), .alloc 63, none⟩,
    ⟨none, .store 63 (.tmp 12) (.tmp 37), none⟩] [0, 6, 7, 8, 10, 12, 22, 23, 24, 32, 33, 34])
  (.seq (.reg [⟨(some 38), .load 63 (.tmp 10), none⟩,
    ⟨(some 39), .load 63 (.tmp 12), none⟩,
    ⟨(some 40), .call ⟨.value (.func 58), #[(.tmp 38), (.tmp 39)], #[63, 63]⟩, none⟩,
    ⟨(some 13), .assign (.tmp 40), none⟩] [0, 6, 7, 8, 10, 12, 13, 22, 23, 24, 32, 33, 34])
  (.seq (.reg [⟨(some 41), .move (.tmp 6), none⟩,
    ⟨(some 42), .binOp .lss 3 (.tmp 41) (.const (.int .i64 0)) 3, none⟩,
    ⟨(some 43), .move (.tmp 42), none⟩,
    ⟨(some 44), .move (.tmp 13), (some (some 43, false))⟩,
    ⟨(some 45), .move (.tmp 8), (some (some 43, false))⟩,
    ⟨(some 46), .binOp .gtr 3 (.tmp 44) (.tmp 45) 3, (some (some 43, false))⟩,
    ⟨(some 47), .pick (.tmp 43) (.const (.bool true)) (.tmp 46), none⟩] [0, 6, 7, 8, 10, 12, 13, 22, 23, 24, 32, 33, 34, 47])
  (.cond (.tmp 47) (.regQ [⟨(some 48), .fieldAddr 63 (.tmp 10) 0, none⟩,
    ⟨(some 49), .load 3 (.tmp 48), none⟩,
    ⟨(some 50), .fieldAddr 63 (.tmp 12) 0, none⟩,
    ⟨(some 51), .load 3 (.tmp 50), none⟩,
    ⟨(some 52), .move (.tmp 13), none⟩,
    ⟨(some 6), .assign (.tmp 49), none⟩,
    ⟨(some 7), .assign (.tmp 51), none⟩,
    ⟨(some 8), .assign (.tmp 52), none⟩] [0, 6, 7, 8, 10, 22, 23, 24, 32, 33, 34])
  .skip)))))
  (.reg [⟨(some 53), .binOp .add 3 (.tmp 34) (.const (.int .i64 1)) 3, none⟩,
    ⟨(some 34), .move (.tmp 53), none⟩] [0, 6, 7, 8, 10, 22, 23, 24, 32, 33, 34]))))
/-- head: [0, 6, 7, 8, 22, 23, 24] -/
def impl_StrongestPair_l1 : ACode := (.seq (.reg [⟨(some 25), .binOp .lss 3 (.tmp 24) (.tmp 23) 3, none⟩] [0, 6, 7, 8, 22, 23, 24, 25])
  (.seq (.cond (.tmp 25) .skip
  (.exit 0))
  (.seq (.block 1 (.seq (.reg [⟨(some 26), .move (.tmp 24), none⟩,
    ⟨(some 27), .indexAddr 25 (.tmp 22) (.tmp 24), none⟩,
    ⟨(some 28), .load 63 (.tmp 27), none⟩,
    ⟨(some 10), .alloc 63, none⟩,
    ⟨(some 9), .assign (.tmp 26), none⟩,
    ⟨none, .store 63 (.tmp 10) (.tmp 28), none⟩] [0, 6, 7, 8, 9, 10, 22, 23, 24])
  (.seq (.reg [⟨(some 29), .move (.tmp 0), none⟩,
    ⟨(some 30), .move (.tmp 9), none⟩,
    ⟨(some 31), .binOp .add 3 (.tmp 30) (.const (.int .i64 1)) 3, none⟩,
    ⟨(some 32), .slice 25 (.tmp 29) (some (.tmp 31)) none none, none⟩,
    ⟨(some 33), .call ⟨.builtin .len, #[(.tmp 32)], #[25]⟩, none⟩,
    ⟨(some 34), .move (.const (.int .i64 0)), none⟩] [0, 6, 7, 8, 10, 22, 23, 24, 32, 33, 34])
  (.block 2 (.loop impl_StrongestPair_l0)))))
  (.reg [⟨(some 54), .binOp .add 3 (.tmp 24) (.const (.int .i64 1)) 3, none⟩,
    ⟨(some 24), .move (.tmp 54), none⟩] [0, 6, 7, 8, 22, 23, 24]))))
/-- loop.example/g01062/impl.StrongestPair: number 20, params [0] -/
def impl_StrongestPair_c : ACode := (.seq (.reg [⟨(some 2), .assign (.const (.int .i64 0)), none⟩,
    ⟨(some 3), .assign (.const (.int .i64 0)), none⟩,
    ⟨(some 4), .assign (.const (.int .i64 0)), none⟩,
    ⟨(some 5), .assign (.const (.bool false)), none⟩] [0])
  (.seq (.seq (.reg [⟨(some 14), .move (.tmp 0), none⟩,
    ⟨(some 15), .call ⟨.value (.func 55), #[(.tmp 14)], #[25]⟩, none⟩,
    ⟨(some 16), .unOp .not 4 (.tmp 15), none⟩,
    ⟨(some 17), .move (.tmp 16), none⟩,
    ⟨(some 18), .move (.tmp 0), (some (some 17, false))⟩,
    ⟨(some 19), .call ⟨.builtin .len, #[(.tmp 18)], #[25]⟩, (some (some 17, false))⟩,
    ⟨(some 20), .binOp .lss 3 (.tmp 19) (.const (.int .i64 2)) 3, (some (some 17, false))⟩,
    ⟨(some 21), .pick (.tmp 17) (.const (.bool true)) (.tmp 20), none⟩] [0, 21])
  (.cond (.tmp 21) (.seq (.reg [⟨(some 2), .assign (.const (.int .i64 0)), none⟩,
    ⟨(some 3), .assign (.const (.int .i64 0)), none⟩,
    ⟨(some 4), .assign (.const (.int .i64 0)), none⟩,
    ⟨(some 5), .assign (.const (.bool false)), none⟩] [2, 3, 4, 5])
  .ret)
  .skip))
  (.seq (.reg [⟨(some 6), .assign (.const (.int .i64 (-1))), none⟩,
    ⟨(some 7), .assign (.const (.int .i64 (-1))), none⟩,
    ⟨(some 8), .assign (.const (.int .i64 0)), none⟩] [0, 6, 7, 8])
  (.seq (.seq (.reg [⟨(some 22), .move (.tmp 0), none⟩,
    ⟨(some 23), .call ⟨.builtin .len, #[(.tmp 22)], #[25]⟩, none⟩,
    ⟨(some 24), .move (.const (.int .i64 0)), none⟩] [0, 6, 7, 8, 22, 23, 24])
  (.block 0 (.loop impl_StrongestPair_l1)))
  (.seq (.reg [⟨(some 55), .move (.tmp 6), none⟩,
    ⟨(some 56), .move (.tmp 7), none⟩,
    ⟨(some 57), .move (.tmp 8), none⟩,
    ⟨(some 2), .assign (.tmp 55), none⟩,
    ⟨(some 3), .assign (.tmp 56), none⟩,
    ⟨(some 4), .assign (.tmp 57), none⟩,
    ⟨(some 5), .assign (.const (.bool true)), none⟩] [2, 3, 4, 5])
  .ret)))))
theorem impl_StrongestPair_k : fnOk Try.prog (fun _ => false) 20 = some (impl_StrongestPair_c.strip, 58, [.tmp 2, .tmp 3, .tmp 4, .tmp 5]) := by kernel_rfl
/-- loop.example/g01062/spec.EvidenceOf: number 21, params [0, 1, 2] -/
def spec_EvidenceOf_c : ACode := (.seq (.reg [⟨(some 6), .assign (.const (.int .i64 0)), none⟩,
    ⟨(some 7), .assign (.const (.bool false)), none⟩] [0, 1, 2])
  (.seq (.reg [⟨(some 10), .move (.tmp 0), none⟩,
    ⟨(some 11), .move (.tmp 1), none⟩,
    ⟨(some 12), .call ⟨.value (.func 59), #[(.tmp 10), (.tmp 11)], #[25, 3]⟩, none⟩,
    ⟨(some 13), .move (.tmp 0), none⟩,
    ⟨(some 14), .move (.tmp 2), none⟩,
    ⟨(some 15), .call ⟨.value (.func 59), #[(.tmp 13), (.tmp 14)], #[25, 3]⟩, none⟩,
    ⟨(some 8), .assign (.tmp 12), none⟩,
    ⟨(some 9), .assign (.tmp 15), none⟩] [0, 8, 9])
  (.seq (.seq (.reg [⟨(some 16), .move (.tmp 0), none⟩,
    ⟨(some 17), .call ⟨.value (.func 53), #[(.tmp 16)], #[25]⟩, none⟩,
    ⟨(some 18), .unOp .not 4 (.tmp 17), none⟩,
    ⟨(some 19), .move (.tmp 18), none⟩,
    ⟨(some 20), .move (.tmp 8), (some (some 19, false))⟩,
    ⟨(some 21), .binOp .lss 3 (.tmp 20) (.const (.int .i64 0)) 3, (some (some 19, false))⟩,
    ⟨(some 22), .pick (.tmp 19) (.const (.bool true)) (.tmp 21), none⟩,
    ⟨(some 23), .move (.tmp 22), none⟩,
    ⟨(some 24), .move (.tmp 9), (some (some 23, false))⟩,
    ⟨(some 25), .binOp .lss 3 (.tmp 24) (.const (.int .i64 0)) 3, (some (some 23, false))⟩,
    ⟨(some 26), .pick (.tmp 23) (.const (.bool true)) (.tmp 25), none⟩] [0, 8, 9, 26])
  (.cond (.tmp 26) (.seq (.reg [⟨(some 6), .assign (.const (.int .i64 0)), none⟩,
    ⟨(some 7), .assign (.const (.bool false)), none⟩] [6, 7])
  .ret)
  .skip))
  (.seq (.regQ [⟨(some 27), .move (.tmp 0), none⟩,
    ⟨(some 28), .move (.tmp 8), none⟩,
    ⟨(some 29), .indexAddr 25 (.tmp 27) (.tmp 28), none⟩,
    ⟨(some 30), .load 63 (.tmp 29), none⟩,
    ⟨(some 31), .move (.tmp 0), none⟩,
    ⟨(some 32), .move (.tmp 9), none⟩,
    ⟨(some 33), .indexAddr 25 (.tmp 31) (.tmp 32), none⟩,
    ⟨(some 34), .load 63 (.tmp 33), none⟩,
    ⟨(some 35), .call ⟨.value (.func 57), #[(.tmp 30), (.tmp 34)], #[63, 63]⟩, none⟩,
    ⟨(some 6), .assign (.tmp 35), none⟩,
    ⟨(some 7), .assign (.const (.bool true)), none⟩] [6, 7])
  .ret))))
theorem spec_EvidenceOf_k : fnOk Try.prog (fun _ => false) 21 = some (spec_EvidenceOf_c.strip, 36, [.tmp 6, .tmp 7]) := by kernel_rfl
/-- loop.example/g01062/impl.EvidenceOf: number 22, params [0, 1, 2] -/
def impl_EvidenceOf_c : ACode := (.seq (.reg [⟨(some 6), .assign (.const (.int .i64 0)), none⟩,
    ⟨(some 7), .assign (.const (.bool false)), none⟩] [0, 1, 2])
  (.seq (.reg [⟨(some 10), .move (.tmp 0), none⟩,
    ⟨(some 11), .move (.tmp 1), none⟩,
    ⟨(some 12), .call ⟨.value (.func 60), #[(.tmp 10), (.tmp 11)], #[25, 3]⟩, none⟩,
    ⟨(some 13), .move (.tmp 0), none⟩,
    ⟨(some 14), .move (.tmp 2), none⟩,
    ⟨(some 15), .call ⟨.value (.func 60), #[(.tmp 13), (.tmp 14)], #[25, 3]⟩, none⟩,
    ⟨(some 8), .assign (.tmp 12), none⟩,
    ⟨(some 9), .assign (.tmp 15), none⟩] [0, 8, 9])
  (.seq (.seq (.reg [⟨(some 16), .move (.tmp 0), none⟩,
    ⟨(some 17), .call ⟨.value (.func 55), #[(.tmp 16)], #[25]⟩, none⟩,
    ⟨(some 18), .unOp .not 4 (.tmp 17), none⟩,
    ⟨(some 19), .move (.tmp 18), none⟩,
    ⟨(some 20), .move (.tmp 8), (some (some 19, false))⟩,
    ⟨(some 21), .binOp .lss 3 (.tmp 20) (.const (.int .i64 0)) 3, (some (some 19, false))⟩,
    ⟨(some 22), .pick (.tmp 19) (.const (.bool true)) (.tmp 21), none⟩,
    ⟨(some 23), .move (.tmp 22), none⟩,
    ⟨(some 24), .move (.tmp 9), (some (some 23, false))⟩,
    ⟨(some 25), .binOp .lss 3 (.tmp 24) (.const (.int .i64 0)) 3, (some (some 23, false))⟩,
    ⟨(some 26), .pick (.tmp 23) (.const (.bool true)) (.tmp 25), none⟩] [0, 8, 9, 26])
  (.cond (.tmp 26) (.seq (.reg [⟨(some 6), .assign (.const (.int .i64 0)), none⟩,
    ⟨(some 7), .assign (.const (.bool false)), none⟩] [6, 7])
  .ret)
  .skip))
  (.seq (.regQ [⟨(some 27), .move (.tmp 0), none⟩,
    ⟨(some 28), .move (.tmp 8), none⟩,
    ⟨(some 29), .indexAddr 25 (.tmp 27) (.tmp 28), none⟩,
    ⟨(some 30), .load 63 (.tmp 29), none⟩,
    ⟨(some 31), .move (.tmp 0), none⟩,
    ⟨(some 32), .move (.tmp 9), none⟩,
    ⟨(some 33), .indexAddr 25 (.tmp 31) (.tmp 32), none⟩,
    ⟨(some 34), .load 63 (.tmp 33), none⟩,
    ⟨(some 35), .call ⟨.value (.func 58), #[(.tmp 30), (.tmp 34)], #[63, 63]⟩, none⟩,
    ⟨(some 6), .assign (.tmp 35), none⟩,
    ⟨(some 7), .assign (.const (.bool true)), none⟩] [6, 7])
  .ret))))
theorem impl_EvidenceOf_k : fnOk Try.prog (fun _ => false) 22 = some (impl_EvidenceOf_c.strip, 36, [.tmp 6, .tmp 7]) := by kernel_rfl
/-- head: [0, 1, 2, 3, 11, 13, 14] -/
def spec_AddSighting_l0 : ACode := (.seq (.seq (.reg [⟨(some 28), .move (.tmp 14), none⟩,
    ⟨(some 29), .move (.tmp 0), none⟩,
    ⟨(some 30), .call ⟨.builtin .len, #[(.tmp 29)], #[25]⟩, none⟩,
    ⟨(some 31), .binOp .lss 3 (.tmp 28) (.tmp 30) 3, none⟩] [0, 1, 2, 3, 11, 13, 14, 31])
  (.cond (.tmp 31) .skip
  (.exit 0)))
  (.seq (.block 1 (.seq (.reg [⟨(some 34), .move (.tmp 0), none⟩,
    ⟨(some 35), .move (.tmp 14), none⟩,
    ⟨(some 36), .indexAddr 25 (.tmp 34) (.tmp 35), none⟩,
    ⟨(some 37), .load 63 (.tmp 36), none⟩,
    ⟨(some 15), .alloc 63, none⟩,
    ⟨none, .store 63 (.tmp 15) (.tmp 37), none⟩] [0, 1, 2, 3, 11, 13, 14, 15])
  (.seq (.reg [⟨(some 38), .fieldAddr 63 (.tmp 15) 3, none⟩,
    ⟨(some 39), .load 34 (.tmp 38), none⟩,
    ⟨(some 40), .call ⟨.value (.func 61), #[(.tmp 39)], #[34]⟩, none⟩,
    ⟨(some 41), .fieldAddr 63 (.tmp 15) 3, none⟩,
    ⟨none, .store 34 (.tmp 41) (.tmp 40), none⟩] [0, 1, 2, 3, 11, 13, 14, 15])
  (.reg [⟨(some 42), .move (.tmp 13), none⟩,
    ⟨(some 43), .load 63 (.tmp 15), none⟩,
    ⟨(some 44), .buildSlice 25 1 #[(0, (.tmp 43))], none⟩,
    ⟨(some 45), .call ⟨.builtin .append, #[(.tmp 42), (.tmp 44)], #[25, 25]⟩, none⟩,
    ⟨(some 13), .assign (.tmp 45), none⟩] [0, 1, 2, 3, 11, 13, 14]))))
  (.reg [⟨(some 32), .move (.tmp 14), none⟩,
    ⟨(some 33), .binOp .add 3 (.tmp 32) (.const (.int .i64 1)) 3, none⟩,
    ⟨(some 14), .assign (.tmp 33), none⟩] [0, 1, 2, 3, 11, 13, 14])))
/-- loop.example/g01062/spec.AddSighting: number 23, params [0, 1, 2, 3] -/
def spec_AddSighting_c : ACode := (.seq (.reg [⟨(some 8), .assign (.const (.slice none 0 0)), none⟩,
    ⟨(some 9), .assign (.const (.int .i64 0)), none⟩,
    ⟨(some 10), .assign (.const (.bool false)), none⟩] [0, 1, 2, 3])
  (.seq (.reg [⟨(some 11), .assign (.const (.int .i64 1)), none⟩] [0, 1, 2, 3, 11])
  (.seq (.seq (.reg [⟨(some 16), .move (.tmp 0), none⟩,
    ⟨(some 17), .call ⟨.builtin .len, #[(.tmp 16)], #[25]⟩, none⟩,
    ⟨(some 12), .assign (.tmp 17), none⟩] [0, 1, 2, 3, 11, 12])
  (.seq (.reg [⟨(some 18), .move (.tmp 12), none⟩,
    ⟨(some 19), .binOp .gtr 3 (.tmp 18) (.const (.int .i64 0)) 3, none⟩] [0, 1, 2, 3, 11, 12, 19])
  (.cond (.tmp 19) (.reg [⟨(some 20), .move (.tmp 0), none⟩,
    ⟨(some 21), .move (.tmp 12), none⟩,
    ⟨(some 22), .binOp .sub 3 (.tmp 21) (.const (.int .i64 1)) 3, none⟩,
    ⟨(some 23), .indexAddr 25 (.tmp 20) (.tmp 22), none⟩,
    ⟨(some 24), .fieldAddr 63 (.tmp 23) 0, none⟩,
    ⟨(some 25), .load 3 (.tmp 24), none⟩,
    ⟨(some 26), .binOp .add 3 (.tmp 25) (.const (.int .i64 1)) 3, none⟩,
    ⟨(some 11), .assign (.tmp 26), none⟩] [0, 1, 2, 3, 11])
  .skip)))
  (.seq (.reg [⟨(some 27), .buildSlice 25 0 #[], none⟩,
    ⟨(some 13), .assign (.tmp 27), none⟩] [0, 1, 2, 3, 11, 13])
  (.seq (.seq (.reg [⟨(some 14), .assign (.const (.int .i64 0)), none⟩] [0, 1, 2, 3, 11, 13, 14])
  (.block 0 (.loop spec_AddSighting_l0)))
  (.seq (.reg [⟨(some 46), .move (.tmp 13), none⟩,
    ⟨(some 47), .move (.tmp 11), none⟩,
    ⟨(some 48), .move (.tmp 1), none⟩,
    ⟨(some 49), .move (.tmp 2), none⟩,
    ⟨(some 50), .move (.tmp 3), none⟩,
    ⟨(some 51), .call ⟨.value (.func 61), #[(.tmp 50)], #[34]⟩, none⟩,
    ⟨(some 52), .build 63 #[(0, (.tmp 47)), (1, (.tmp 48)), (2, (.tmp 49)), (3, (.tmp 51))], none⟩,
    ⟨(some 53), .buildSlice 25 1 #[(0, (.tmp 52))], none⟩,
    ⟨(some 54), .call ⟨.builtin .append, #[(.tmp 46), (.tmp 53)], #[25, 25]⟩, none⟩,
    ⟨(some 13), .assign (.tmp 54), none⟩] [0, 11, 13])
  (.seq (.seq (.reg [⟨(some 55), .move (.tmp 0), none⟩,
    ⟨(some 56), .call ⟨.value (.func 53), #[(.tmp 55)], #[25]⟩, none⟩,
    ⟨(some 57), .unOp .not 4 (.tmp 56), none⟩,
    ⟨(some 58), .move (.tmp 57), none⟩,
    ⟨(some 59), .move (.tmp 13), (some (some 58, false))⟩,
    ⟨(some 60), .call ⟨.value (.func 53), #[(.tmp 59)], #[25]⟩, (some (some 58, false))⟩,
    ⟨(some 61), .unOp .not 4 (.tmp 60), (some (some 58, false))⟩,
    ⟨(some 62), .pick (.tmp 58) (.const (.bool true)) (.tmp 61), none⟩] [11, 13, 62])
  (.cond (.tmp 62) (.seq (.reg [⟨(some 63), .buildSlice 25 0 #[], none⟩,
    ⟨(some 8), .assign (.tmp 63), none⟩,
    ⟨(some 9), .assign (.const (.int .i64 0)), none⟩,
    ⟨(some 10), .assign (.const (.bool false)), none⟩] [8, 9, 10])
  .ret)
  .skip))
  (.seq (.reg [⟨(some 64), .move (.tmp 13), none⟩,
    ⟨(some 65), .move (.tmp 11), none⟩,
    ⟨(some 8), .assign (.tmp 64), none⟩,
    ⟨(some 9), .assign (.tmp 65), none⟩,
    ⟨(some 10), .assign (.const (.bool true)), none⟩] [8, 9, 10])
  .ret))))))))
theorem spec_AddSighting_k : fnOk Try.prog (fun _ => false) 23 = some (spec_AddSighting_c.strip, 66, [.tmp 8, .tmp 9, .tmp 10]) := by kernel_rfl
/-- head: [0, 3, 4] -/
def laws_toIntS_l0 : ACode := (.seq (.seq (.reg [⟨(some 8), .move (.tmp 4), none⟩,
    ⟨(some 9), .move (.tmp 0), none⟩,
    ⟨(some 10), .call ⟨.builtin .len, #[(.tmp 9)], #[34]⟩, none⟩,
    ⟨(some 11), .binOp .lss 3 (.tmp 8) (.tmp 10) 3, none⟩] [0, 3, 4, 11])
  (.cond (.tmp 11) .skip
  (.exit 0)))
  (.seq (.block 1 (.reg [⟨(some 14), .move (.tmp 3), none⟩,
    ⟨(some 15), .move (.tmp 4), none⟩,
    ⟨(some 16), .move (.tmp 0), none⟩,
    ⟨(some 17), .move (.tmp 4), none⟩,
    ⟨(some 18), .indexAddr 34 (.tmp 16) (.tmp 17), none⟩,
    ⟨(some 19), .load 3 (.tmp 18), none⟩,
    ⟨(some 20), .indexAddr 34 (.tmp 14) (.tmp 15), none⟩,
    ⟨none, .store 3 (.tmp 20) (.tmp 19), none⟩] [0, 3, 4]))
  (.reg [⟨(some 12), .move (.tmp 4), none⟩,
    ⟨(some 13), .binOp .add 3 (.tmp 12) (.const (.int .i64 1)) 3, none⟩,
    ⟨(some 4), .assign (.tmp 13), none⟩] [0, 3, 4])))
/-- loop.example/g01062/laws.toIntS: number 24, params [0] -/
def laws_toIntS_c : ACode := (.seq (.reg [⟨(some 2), .assign (.const (.slice none 0 0)), none⟩] [0])
  (.seq (.reg [⟨(some 5), .move (.tmp 0), none⟩,
    ⟨(some 6), .call ⟨.builtin .len, #[(.tmp 5)], #[34]⟩, none⟩,
    ⟨(some 7), .makeSlice 34 (.tmp 6) (.tmp 6), none⟩,
    ⟨(some 3), .assign (.tmp 7), none⟩] [0, 3])
  (.seq (.seq (.reg [⟨(some 4), .assign (.const (.int .i64 0)), none⟩] [0, 3, 4])
  (.block 0 (.loop laws_toIntS_l0)))
  (.seq (.reg [⟨(some 21), .move (.tmp 3), none⟩,
    ⟨(some 2), .assign (.tmp 21), none⟩] [2])
  .ret))))
theorem laws_toIntS_k : fnOk Try.prog (fun _ => false) 24 = some (laws_toIntS_c.strip, 22, [.tmp 2]) := by kernel_rfl
/-- loop.example/g01062/impl.AddSighting: number 25, params [0, 1, 2, 3] -/
def impl_AddSighting_c : ACode := (.seq (.reg [⟨(some 8), .assign (.const (.slice none 0 0)), none⟩,
    ⟨(some 9), .assign (.const (.int .i64 0)), none⟩,
    ⟨(some 10), .assign (.const (.bool false)), none⟩] [0, 1, 2, 3])
  (.seq (.seq (.reg [⟨(some 14), .move (.tmp 0), none⟩,
    ⟨(some 15), .call ⟨.value (.func 55), #[(.tmp 14)], #[25]⟩, none⟩,
    ⟨(some 16), .unOp .not 4 (.tmp 15), none⟩] [0, 1, 2, 3, 16])
  (.cond (.tmp 16) (.seq (.reg [⟨(some 8), .assign (.const (.slice none 0 0)), none⟩,
    ⟨(some 9), .assign (.const (.int .i64 0)), none⟩,
    ⟨(some 10), .assign (.const (.bool false)), none⟩] [8, 9, 10])
  .ret)
  .skip))
  (.seq (.reg [⟨(some 11), .assign (.const (.int .i64 1)), none⟩] [0, 1, 2, 3, 11])
  (.seq (.seq (.reg [⟨(some 17), .move (.tmp 0), none⟩,
    ⟨(some 18), .call ⟨.builtin .len, #[(.tmp 17)], #[25]⟩, none⟩,
    ⟨(some 12), .assign (.tmp 18), none⟩] [0, 1, 2, 3, 11, 12])
  (.seq (.reg [⟨(some 19), .move (.tmp 12), none⟩,
    ⟨(some 20), .binOp .gtr 3 (.tmp 19) (.const (.int .i64 0)) 3, none⟩] [0, 1, 2, 3, 11, 12, 20])
  (.cond (.tmp 20) (.reg [⟨(some 21), .move (.tmp 0), none⟩,
    ⟨(some 22), .move (.tmp 12), none⟩,
    ⟨(some 23), .binOp .sub 3 (.tmp 22) (.const (.int .i64 1)) 3, none⟩,
    ⟨(some 24), .indexAddr 25 (.tmp 21) (.tmp 23), none⟩,
    ⟨(some 25), .fieldAddr 63 (.tmp 24) 0, none⟩,
    ⟨(some 26), .load 3 (.tmp 25), none⟩,
    ⟨(some 27), .binOp .add 3 (.tmp 26) (.const (.int .i64 1)) 3, none⟩,
    ⟨(some 11), .assign (.tmp 27), none⟩] [0, 1, 2, 3, 11])
  .skip)))
  (.seq (.reg [⟨(some 28), .move (.tmp 0), none⟩,
    ⟨(some 29), .call ⟨.value (.func 62), #[(.tmp 28)], #[25]⟩, none⟩,
    ⟨(some 30), .move (.tmp 11), none⟩,
    ⟨(some 31), .move (.tmp 1), none⟩,
    ⟨(some 32), .move (.tmp 2), none⟩,
    ⟨(some 33), .move (.tmp 3), none⟩,
    ⟨(some 34), .call ⟨.value (.func 63), #[(.tmp 33)], #[34]⟩, none⟩,
    ⟨(some 35), .build 63 #[(0, (.tmp 30)), (1, (.tmp 31)), (2, (.tmp 32)), (3, (.tmp 34))], none⟩,
    ⟨(some 36), .buildSlice 25 1 #[(0, (.tmp 35))], none⟩,
    ⟨(some 37), .call ⟨.builtin .append, #[(.tmp 29), (.tmp 36)], #[25, 25]⟩, none⟩,
    ⟨(some 13), .assign (.tmp 37), none⟩] [11, 13])
  (.seq (.seq (.reg [⟨(some 38), .move (.tmp 13), none⟩,
    ⟨(some 39), .call ⟨.value (.func 55), #[(.tmp 38)], #[25]⟩, none⟩,
    ⟨(some 40), .unOp .not 4 (.tmp 39), none⟩] [11, 13, 40])
  (.cond (.tmp 40) (.seq (.reg [⟨(some 8), .assign (.const (.slice none 0 0)), none⟩,
    ⟨(some 9), .assign (.const (.int .i64 0)), none⟩,
    ⟨(some 10), .assign (.const (.bool false)), none⟩] [8, 9, 10])
  .ret)
  .skip))
  (.seq (.reg [⟨(some 41), .move (.tmp 13), none⟩,
    ⟨(some 42), .move (.tmp 11), none⟩,
    ⟨(some 8), .assign (.tmp 41), none⟩,
    ⟨(some 9), .assign (.tmp 42), none⟩,
    ⟨(some 10), .assign (.const (.bool true)), none⟩] [8, 9, 10])
  .ret)))))))
theorem impl_AddSighting_k : fnOk Try.prog (fun _ => false) 25 = some (impl_AddSighting_c.strip, 43, [.tmp 8, .tmp 9, .tmp 10]) := by kernel_rfl
/-- head: [0, 1, 5] -/
def laws_eqIntS_l0 : ACode := (.seq (.seq (.reg [⟨(some 11), .move (.tmp 5), none⟩,
    ⟨(some 12), .move (.tmp 0), none⟩,
    ⟨(some 13), .call ⟨.builtin .len, #[(.tmp 12)], #[34]⟩, none⟩,
    ⟨(some 14), .binOp .lss 3 (.tmp 11) (.tmp 13) 3, none⟩] [0, 1, 5, 14])
  (.cond (.tmp 14) .skip
  (.exit 0)))
  (.seq (.block 1 (.seq (.regQ [⟨(some 17), .move (.tmp 0), none⟩,
    ⟨(some 18), .move (.tmp 5), none⟩,
    ⟨(some 19), .indexAddr 34 (.tmp 17) (.tmp 18), none⟩,
    ⟨(some 20), .load 3 (.tmp 19), none⟩,
    ⟨(some 21), .move (.tmp 1), none⟩,
    ⟨(some 22), .move (.tmp 5), none⟩,
    ⟨(some 23), .indexAddr 34 (.tmp 21) (.tmp 22), none⟩,
    ⟨(some 24), .load 3 (.tmp 23), none⟩,
    ⟨(some 25), .binOp .neq 3 (.tmp 20) (.tmp 24) 3, none⟩] [0, 1, 5, 25])
  (.cond (.tmp 25) (.seq (.reg [⟨(some 4), .assign (.const (.bool false)), none⟩] [4])
  .ret)
  .skip)))
  (.reg [⟨(some 15), .move (.tmp 5), none⟩,
    ⟨(some 16), .binOp .add 3 (.tmp 15) (.const (.int .i64 1)) 3, none⟩,
    ⟨(some 5), .assign (.tmp 16), none⟩] [0, 1, 5])))
/-- loop.example/g01062/laws.eqIntS: number 26, params [0, 1] -/
def laws_eqIntS_c : ACode := (.seq (.reg [⟨(some 4), .assign (.const (.bool false)), none⟩] [0, 1])
  (.seq (.seq (.reg [⟨(some 6), .move (.tmp 0), none⟩,
    ⟨(some 7), .call ⟨.builtin .len, #[(.tmp 6)], #[34]⟩, none⟩,
    ⟨(some 8), .move (.tmp 1), none⟩,
    ⟨(some 9), .call ⟨.builtin .len, #[(.tmp 8)], #[34]⟩, none⟩,
    ⟨(some 10), .binOp .neq 3 (.tmp 7) (.tmp 9) 3, none⟩] [0, 1, 10])
  (.cond (.tmp 10) (.seq (.reg [⟨(some 4), .assign (.const (.bool false)), none⟩] [4])
  .ret)
  .skip))
  (.seq (.seq (.reg [⟨(some 5), .assign (.const (.int .i64 0)), none⟩] [0, 1, 5])
  (.block 0 (.loop laws_eqIntS_l0)))
  (.seq (.reg [⟨(some 4), .assign (.const (.bool true)), none⟩] [4])
  .ret))))
theorem laws_eqIntS_k : fnOk Try.prog (fun _ => false) 26 = some (laws_eqIntS_c.strip, 26, [.tmp 4]) := by kernel_rfl
/-- head: [0, 1, 5] -/
def laws_markSightingS_l0 : ACode := (.seq (.seq (.reg [⟨(some 6), .move (.tmp 5), none⟩,
    ⟨(some 7), .move (.tmp 0), none⟩,
    ⟨(some 8), .call ⟨.builtin .len, #[(.tmp 7)], #[25]⟩, none⟩,
    ⟨(some 9), .binOp .lss 3 (.tmp 6) (.tmp 8) 3, none⟩] [0, 1, 5, 9])
  (.cond (.tmp 9) .skip
  (.exit 0)))
  (.seq (.block 1 (.seq (.reg [⟨(some 12), .move (.tmp 0), none⟩,
    ⟨(some 13), .move (.tmp 5), none⟩,
    ⟨(some 14), .move (.tmp 1), none⟩,
    ⟨(some 15), .indexAddr 25 (.tmp 12) (.tmp 13), none⟩,
    ⟨(some 16), .fieldAddr 63 (.tmp 15) 0, none⟩,
    ⟨none, .store 3 (.tmp 16) (.tmp 14), none⟩] [0, 1, 5])
  (.seq (.reg [⟨(some 17), .move (.tmp 1), none⟩,
    ⟨(some 18), .binOp .add 3 (.tmp 17) (.const (.int .i64 1)) 3, none⟩,
    ⟨(some 1), .assign (.tmp 18), none⟩] [0, 1, 5])
  (.seq (.reg [⟨(some 19), .move (.tmp 0), none⟩,
    ⟨(some 20), .move (.tmp 5), none⟩,
    ⟨(some 21), .move (.tmp 1), none⟩,
    ⟨(some 22), .indexAddr 25 (.tmp 19) (.tmp 20), none⟩,
    ⟨(some 23), .fieldAddr 63 (.tmp 22) 1, none⟩,
    ⟨none, .store 3 (.tmp 23) (.tmp 21), none⟩] [0, 1, 5])
  (.seq (.reg [⟨(some 24), .move (.tmp 1), none⟩,
    ⟨(some 25), .binOp .add 3 (.tmp 24) (.const (.int .i64 1)) 3, none⟩,
    ⟨(some 1), .assign (.tmp 25), none⟩] [0, 1, 5])
  (.seq (.reg [⟨(some 26), .move (.tmp 0), none⟩,
    ⟨(some 27), .move (.tmp 5), none⟩,
    ⟨(some 28), .move (.tmp 1), none⟩,
    ⟨(some 29), .call ⟨.value (.func 64), #[(.tmp 28)], #[3]⟩, none⟩,
    ⟨(some 30), .indexAddr 25 (.tmp 26) (.tmp 27), none⟩,
    ⟨(some 31), .fieldAddr 63 (.tmp 30) 2, none⟩,
    ⟨none, .store 9 (.tmp 31) (.tmp 29), none⟩] [0, 1, 5])
  (.seq (.reg [⟨(some 32), .move (.tmp 1), none⟩,
    ⟨(some 33), .binOp .add 3 (.tmp 32) (.const (.int .i64 1)) 3, none⟩,
    ⟨(some 1), .assign (.tmp 33), none⟩] [0, 1, 5])
  (.reg [⟨(some 34), .move (.tmp 0), none⟩,
    ⟨(some 35), .move (.tmp 5), none⟩,
    ⟨(some 36), .indexAddr 25 (.tmp 34) (.tmp 35), none⟩,
    ⟨(some 37), .fieldAddr 63 (.tmp 36) 3, none⟩,
    ⟨(some 38), .load 34 (.tmp 37), none⟩,
    ⟨(some 39), .move (.tmp 1), none⟩,
    ⟨(some 40), .call ⟨.value (.func 28), #[(.tmp 38), (.tmp 39)], #[34, 3]⟩, none⟩,
    ⟨(some 1), .assign (.tmp 40), none⟩] [0, 1, 5]))))))))
  (.reg [⟨(some 10), .move (.tmp 5), none⟩,
    ⟨(some 11), .binOp .add 3 (.tmp 10) (.const (.int .i64 1)) 3, none⟩,
    ⟨(some 5), .assign (.tmp 11), none⟩] [0, 1, 5])))
/-- loop.example/g01062/laws.markSightingS: number 27, params [0, 1] -/
def laws_markSightingS_c : ACode := (.seq (.reg [⟨(some 4), .assign (.const (.int .i64 0)), none⟩] [0, 1])
  (.seq (.seq (.reg [⟨(some 5), .assign (.const (.int .i64 0)), none⟩] [0, 1, 5])
  (.block 0 (.loop laws_markSightingS_l0)))
  (.seq (.reg [⟨(some 41), .move (.tmp 1), none⟩,
    ⟨(some 4), .assign (.tmp 41), none⟩] [4])
  .ret)))
theorem laws_markSightingS_k : fnOk Try.prog (fun _ => false) 27 = some (laws_markSightingS_c.strip, 42, [.tmp 4]) := by kernel_rfl
/-- head: [0, 1, 5] -/
def laws_markIntS_l0 : ACode := (.seq (.seq (.reg [⟨(some 6), .move (.tmp 5), none⟩,
    ⟨(some 7), .move (.tmp 0), none⟩,
    ⟨(some 8), .call ⟨.builtin .len, #[(.tmp 7)], #[34]⟩, none⟩,
    ⟨(some 9), .binOp .lss 3 (.tmp 6) (.tmp 8) 3, none⟩] [0, 1, 5, 9])
  (.cond (.tmp 9) .skip
  (.exit 0)))
  (.seq (.block 1 (.seq (.reg [⟨(some 12), .move (.tmp 0), none⟩,
    ⟨(some 13), .move (.tmp 5), none⟩,
    ⟨(some 14), .move (.tmp 1), none⟩,
    ⟨(some 15), .indexAddr 34 (.tmp 12) (.tmp 13), none⟩,
    ⟨none, .store 3 (.tmp 15) (.tmp 14), none⟩] [0, 1, 5])
  (.reg [⟨(some 16), .move (.tmp 1), none⟩,
    ⟨(some 17), .binOp .add 3 (.tmp 16) (.const (.int .i64 1)) 3, none⟩,
    ⟨(some 1), .assign (.tmp 17), none⟩] [0, 1, 5])))
  (.reg [⟨(some 10), .move (.tmp 5), none⟩,
    ⟨(some 11), .binOp .add 3 (.tmp 10) (.const (.int .i64 1)) 3, none⟩,
    ⟨(some 5), .assign (.tmp 11), none⟩] [0, 1, 5])))
/-- loop.example/g01062/laws.markIntS: number 28, params [0, 1] -/
def laws_markIntS_c : ACode := (.seq (.reg [⟨(some 4), .assign (.const (.int .i64 0)), none⟩] [0, 1])
  (.seq (.seq (.reg [⟨(some 5), .assign (.const (.int .i64 0)), none⟩] [0, 1, 5])
  (.block 0 (.loop laws_markIntS_l0)))
  (.seq (.reg [⟨(some 18), .move (.tmp 1), none⟩,
    ⟨(some 4), .assign (.tmp 18), none⟩] [4])
  .ret)))
theorem laws_markIntS_k : fnOk Try.prog (fun _ => false) 28 = some (laws_markIntS_c.strip, 19, [.tmp 4]) := by kernel_rfl
/-- head: [0, 1, 5] -/
def laws_heldSightingS_l0 : ACode := (.seq (.seq (.reg [⟨(some 6), .move (.tmp 5), none⟩,
    ⟨(some 7), .move (.tmp 0), none⟩,
    ⟨(some 8), .call ⟨.builtin .len, #[(.tmp 7)], #[25]⟩, none⟩,
    ⟨(some 9), .binOp .lss 3 (.tmp 6) (.tmp 8) 3, none⟩] [0, 1, 5, 9])
  (.cond (.tmp 9) .skip
  (.exit 0)))
  (.seq (.block 1 (.seq (.seq (.reg [⟨(some 12), .move (.tmp 0), none⟩,
    ⟨(some 13), .move (.tmp 5), none⟩,
    ⟨(some 14), .indexAddr 25 (.tmp 12) (.tmp 13), none⟩,
    ⟨(some 15), .fieldAddr 63 (.tmp 14) 0, none⟩,
    ⟨(some 16), .load 3 (.tmp 15), none⟩,
    ⟨(some 17), .move (.tmp 1), none⟩,
    ⟨(some 18), .binOp .neq 3 (.tmp 16) (.tmp 17) 3, none⟩] [0, 1, 5, 18])
  (.cond (.tmp 18) (.seq (.reg [⟨(some 4), .assign (.const (.int .i64 (-1))), none⟩] [4])
  .ret)
  .skip))
  (.seq (.reg [⟨(some 19), .move (.tmp 1), none⟩,
    ⟨(some 20), .binOp .add 3 (.tmp 19) (.const (.int .i64 1)) 3, none⟩,
    ⟨(some 1), .assign (.tmp 20), none⟩] [0, 1, 5])
  (.seq (.seq (.reg [⟨(some 21), .move (.tmp 0), none⟩,
    ⟨(some 22), .move (.tmp 5), none⟩,
    ⟨(some 23), .indexAddr 25 (.tmp 21) (.tmp 22), none⟩,
    ⟨(some 24), .fieldAddr 63 (.tmp 23) 1, none⟩,
    ⟨(some 25), .load 3 (.tmp 24), none⟩,
    ⟨(some 26), .move (.tmp 1), none⟩,
    ⟨(some 27), .binOp .neq 3 (.tmp 25) (.tmp 26) 3, none⟩] [0, 1, 5, 27])
  (.cond (.tmp 27) (.seq (.reg [⟨(some 4), .assign (.const (.int .i64 (-1))), none⟩] [4])
  .ret)
  .skip))
  (.seq (.reg [⟨(some 28), .move (.tmp 1), none⟩,
    ⟨(some 29), .binOp .add 3 (.tmp 28) (.const (.int .i64 1)) 3, none⟩,
    ⟨(some 1), .assign (.tmp 29), none⟩] [0, 1, 5])
  (.seq (.seq (.regQ [⟨(some 30), .move (.tmp 0), none⟩,
    ⟨(some 31), .move (.tmp 5), none⟩,
    ⟨(some 32), .indexAddr 25 (.tmp 30) (.tmp 31), none⟩,
    ⟨(some 33), .fieldAddr 63 (.tmp 32) 2, none⟩,
    ⟨(some 34), .load 9 (.tmp 33), none⟩,
    ⟨(some 35), .move (.tmp 1), none⟩,
    ⟨(some 36), .call ⟨.value (.func 64), #[(.tmp 35)], #[3]⟩, none⟩,
    ⟨(some 37), .binOp .neq 9 (.tmp 34) (.tmp 36) 9, none⟩] [0, 1, 5, 37])
  (.cond (.tmp 37) (.seq (.reg [⟨(some 4), .assign (.const (.int .i64 (-1))), none⟩] [4])
  .ret)
  .skip))
  (.seq (.reg [⟨(some 38), .move (.tmp 1), none⟩,
    ⟨(some 39), .binOp .add 3 (.tmp 38) (.const (.int .i64 1)) 3, none⟩,
    ⟨(some 1), .assign (.tmp 39), none⟩] [0, 1, 5])
  (.seq (.reg [⟨(some 40), .move (.tmp 0), none⟩,
    ⟨(some 41), .move (.tmp 5), none⟩,
    ⟨(some 42), .indexAddr 25 (.tmp 40) (.tmp 41), none⟩,
    ⟨(some 43), .fieldAddr 63 (.tmp 42) 3, none⟩,
    ⟨(some 44), .load 34 (.tmp 43), none⟩,
    ⟨(some 45), .move (.tmp 1), none⟩,
    ⟨(some 46), .call ⟨.value (.func 34), #[(.tmp 44), (.tmp 45)], #[34, 3]⟩, none⟩,
    ⟨(some 1), .assign (.tmp 46), none⟩] [0, 1, 5])
  (.seq (.reg [⟨(some 47), .move (.tmp 1), none⟩,
    ⟨(some 48), .binOp .lss 3 (.tmp 47) (.const (.int .i64 0)) 3, none⟩] [0, 1, 5, 48])
  (.cond (.tmp 48) (.seq (.reg [⟨(some 4), .assign (.const (.int .i64 (-1))), none⟩] [4])
  .ret)
  .skip))))))))))
  (.reg [⟨(some 10), .move (.tmp 5), none⟩,
    ⟨(some 11), .binOp .add 3 (.tmp 10) (.const (.int .i64 1)) 3, none⟩,
    ⟨(some 5), .assign (.tmp 11), none⟩] [0, 1, 5])))
/-- loop.example/g01062/laws.heldSightingS: number 29, params [0, 1] -/
def laws_heldSightingS_c : ACode := (.seq (.reg [⟨(some 4), .assign (.const (.int .i64 0)), none⟩] [0, 1])
  (.seq (.seq (.reg [⟨(some 5), .assign (.const (.int .i64 0)), none⟩] [0, 1, 5])
  (.block 0 (.loop laws_heldSightingS_l0)))
  (.seq (.reg [⟨(some 49), .move (.tmp 1), none⟩,
    ⟨(some 4), .assign (.tmp 49), none⟩] [4])
  .ret)))
theorem laws_heldSightingS_k : fnOk Try.prog (fun _ => false) 29 = some (laws_heldSightingS_c.strip, 50, [.tmp 4]) := by kernel_rfl
/-- head: [0, 8, 9, 10] -/
def spec_GreatestLimit_l0 : ACode := (.seq (.seq (.reg [⟨(some 33), .move (.tmp 10), none⟩,
    ⟨(some 34), .binOp .geq 3 (.tmp 33) (.const (.int .i64 (-30))) 3, none⟩] [0, 8, 9, 10, 34])
  (.cond (.tmp 34) .skip
  (.exit 0)))
  (.seq (.block 1 (.seq (.reg [⟨(some 37), .move (.tmp 0), none⟩,
    ⟨(some 38), .move (.tmp 10), none⟩,
    ⟨(some 39), .move (.tmp 8), none⟩,
    ⟨(some 40), .call ⟨.value (.func 66), #[(.tmp 37), (.tmp 38), (.tmp 39)], #[25, 3, 3]⟩, none⟩,
    ⟨(some 41), .move (.tmp 9), none⟩,
    ⟨(some 42), .call ⟨.value (.func 65), #[(.tmp 40), (.tmp 41)], #[34, 3]⟩, none⟩] [0, 8, 9, 10, 42])
  (.cond (.tmp 42) (.seq (.reg [⟨(some 43), .move (.tmp 10), none⟩,
    ⟨(some 6), .assign (.tmp 43), none⟩,
    ⟨(some 7), .assign (.const (.bool true)), none⟩] [6, 7])
  .ret)
  .skip)))
  (.reg [⟨(some 35), .move (.tmp 10), none⟩,
    ⟨(some 36), .binOp .sub 3 (.tmp 35) (.const (.int .i64 1)) 3, none⟩,
    ⟨(some 10), .assign (.tmp 36), none⟩] [0, 8, 9, 10])))
/-- loop.example/g01062/spec.GreatestLimit: number 30, params [0, 1, 2] -/
def spec_GreatestLimit_c : ACode := (.seq (.reg [⟨(some 6), .assign (.const (.int .i64 0)), none⟩,
    ⟨(some 7), .assign (.const (.bool false)), none⟩] [0, 1, 2])
  (.seq (.reg [⟨(some 11), .move (.tmp 0), none⟩,
    ⟨(some 12), .move (.tmp 1), none⟩,
    ⟨(some 13), .call ⟨.value (.func 59), #[(.tmp 11), (.tmp 12)], #[25, 3]⟩, none⟩,
    ⟨(some 14), .move (.tmp 0), none⟩,
    ⟨(some 15), .move (.tmp 2), none⟩,
    ⟨(some 16), .call ⟨.value (.func 59), #[(.tmp 14), (.tmp 15)], #[25, 3]⟩, none⟩,
    ⟨(some 8), .assign (.tmp 13), none⟩,
    ⟨(some 9), .assign (.tmp 16), none⟩] [0, 8, 9])
  (.seq (.seq (.reg [⟨(some 17), .move (.tmp 0), none⟩,
    ⟨(some 18), .call ⟨.value (.func 53), #[(.tmp 17)], #[25]⟩, none⟩,
    ⟨(some 19), .unOp .not 4 (.tmp 18), none⟩,
    ⟨(some 20), .move (.tmp 19), none⟩,
    ⟨(some 21), .move (.tmp 8), (some (some 20, false))⟩,
    ⟨(some 22), .binOp .lss 3 (.tmp 21) (.const (.int .i64 0)) 3, (some (some 20, false))⟩,
    ⟨(some 23), .pick (.tmp 20) (.const (.bool true)) (.tmp 22), none⟩,
    ⟨(some 24), .move (.tmp 23), none⟩,
    ⟨(some 25), .move (.tmp 9), (some (some 24, false))⟩,
    ⟨(some 26), .binOp .lss 3 (.tmp 25) (.const (.int .i64 0)) 3, (some (some 24, false))⟩,
    ⟨(some 27), .pick (.tmp 24) (.const (.bool true)) (.tmp 26), none⟩,
    ⟨(some 28), .move (.tmp 27), none⟩,
    ⟨(some 29), .move (.tmp 8), (some (some 28, false))⟩,
    ⟨(some 30), .move (.tmp 9), (some (some 28, false))⟩,
    ⟨(some 31), .binOp .eql 3 (.tmp 29) (.tmp 30) 3, (some (some 28, false))⟩,
    ⟨(some 32), .pick (.tmp 28) (.const (.bool true)) (.tmp 31), none⟩] [0, 8, 9, 32])
  (.cond (.tmp 32) (.seq (.reg [⟨(some 6), .assign (.const (.int .i64 0)), none⟩,
    ⟨(some 7), .assign (.const (.bool false)), none⟩] [6, 7])
  .ret)
  .skip))
  (.seq (.seq (.reg [⟨(some 10), .assign (.const (.int .i64 16)), none⟩] [0, 8, 9, 10])
  (.block 0 (.loop spec_GreatestLimit_l0)))
  (.seq (.reg [⟨(some 6), .assign (.const (.int .i64 0)), none⟩,
    ⟨(some 7), .assign (.const (.bool false)), none⟩] [6, 7])
  .ret)))))
theorem spec_GreatestLimit_k : fnOk Try.prog (fun _ => false) 30 = some (spec_GreatestLimit_c.strip, 44, [.tmp 6, .tmp 7]) := by kernel_rfl
/-- head: [0, 1, 9, 10] -/
def impl_GreatestLimit_l0 : ACode := (.seq (.seq (.reg [⟨(some 33), .move (.tmp 10), none⟩,
    ⟨(some 34), .binOp .gtr 3 (.tmp 33) (.const (.int .i64 (-30))) 3, none⟩,
    ⟨(some 35), .move (.tmp 34), none⟩,
    ⟨(some 36), .move (.tmp 0), (some (some 35, true))⟩,
    ⟨(some 37), .move (.tmp 10), (some (some 35, true))⟩,
    ⟨(some 38), .move (.tmp 1), (some (some 35, true))⟩,
    ⟨(some 39), .call ⟨.value (.func 68), #[(.tmp 36), (.tmp 37), (.tmp 38)], #[25, 3, 3]⟩, (some (some 35, true))⟩,
    ⟨(some 40), .move (.tmp 9), (some (some 35, true))⟩,
    ⟨(some 41), .call ⟨.value (.func 67), #[(.tmp 39), (.tmp 40)], #[34, 3]⟩, (some (some 35, true))⟩,
    ⟨(some 42), .unOp .not 4 (.tmp 41), (some (some 35, true))⟩,
    ⟨(some 43), .pick (.tmp 35) (.tmp 42) (.const (.bool false)), none⟩] [0, 1, 9, 10, 43])
  (.cond (.tmp 43) .skip
  (.exit 0)))
  (.block 1 (.reg [⟨(some 44), .move (.tmp 10), none⟩,
    ⟨(some 45), .binOp .sub 3 (.tmp 44) (.const (.int .i64 1)) 3, none⟩,
    ⟨(some 10), .assign (.tmp 45), none⟩] [0, 1, 9, 10])))
/-- loop.example/g01062/impl.GreatestLimit: number 31, params [0, 1, 2] -/
def impl_GreatestLimit_c : ACode := (.seq (.reg [⟨(some 6), .assign (.const (.int .i64 0)), none⟩,
    ⟨(some 7), .assign (.const (.bool false)), none⟩] [0, 1, 2])
  (.seq (.reg [⟨(some 11), .move (.tmp 0), none⟩,
    ⟨(some 12), .move (.tmp 1), none⟩,
    ⟨(some 13), .call ⟨.value (.func 60), #[(.tmp 11), (.tmp 12)], #[25, 3]⟩, none⟩,
    ⟨(some 14), .move (.tmp 0), none⟩,
    ⟨(some 15), .move (.tmp 2), none⟩,
    ⟨(some 16), .call ⟨.value (.func 60), #[(.tmp 14), (.tmp 15)], #[25, 3]⟩, none⟩,
    ⟨(some 8), .assign (.tmp 13), none⟩,
    ⟨(some 9), .assign (.tmp 16), none⟩] [0, 1, 8, 9])
  (.seq (.seq (.reg [⟨(some 17), .move (.tmp 0), none⟩,
    ⟨(some 18), .call ⟨.value (.func 55), #[(.tmp 17)], #[25]⟩, none⟩,
    ⟨(some 19), .unOp .not 4 (.tmp 18), none⟩,
    ⟨(some 20), .move (.tmp 19), none⟩,
    ⟨(some 21), .move (.tmp 8), (some (some 20, false))⟩,
    ⟨(some 22), .binOp .lss 3 (.tmp 21) (.const (.int .i64 0)) 3, (some (some 20, false))⟩,
    ⟨(some 23), .pick (.tmp 20) (.const (.bool true)) (.tmp 22), none⟩,
    ⟨(some 24), .move (.tmp 23), none⟩,
    ⟨(some 25), .move (.tmp 9), (some (some 24, false))⟩,
    ⟨(some 26), .binOp .lss 3 (.tmp 25) (.const (.int .i64 0)) 3, (some (some 24, false))⟩,
    ⟨(some 27), .pick (.tmp 24) (.const (.bool true)) (.tmp 26), none⟩,
    ⟨(some 28), .move (.tmp 27), none⟩,
    ⟨(some 29), .move (.tmp 8), (some (some 28, false))⟩,
    ⟨(some 30), .move (.tmp 9), (some (some 28, false))⟩,
    ⟨(some 31), .binOp .eql 3 (.tmp 29) (.tmp 30) 3, (some (some 28, false))⟩,
    ⟨(some 32), .pick (.tmp 28) (.const (.bool true)) (.tmp 31), none⟩] [0, 1, 9, 32])
  (.cond (.tmp 32) (.seq (.reg [⟨(some 6), .assign (.const (.int .i64 0)), none⟩,
    ⟨(some 7), .assign (.const (.bool false)), none⟩] [6, 7])
  .ret)
  .skip))
  (.seq (.reg [⟨(some 10), .assign (.const (.int .i64 16)), none⟩] [0, 1, 9, 10])
  (.seq (.block 0 (.loop impl_GreatestLimit_l0))
  (.seq (.reg [⟨(some 46), .move (.tmp 10), none⟩,
    ⟨(some 6), .assign (.tmp 46), none⟩,
    ⟨(some 7), .assign (.const (.bool true)), none⟩] [6, 7])
  .ret))))))
theorem impl_GreatestLimit_k : fnOk Try.prog (fun _ => false) 31 = some (impl_GreatestLimit_c.strip, 47, [.tmp 6, .tmp 7]) := by kernel_rfl
/-- head: [0, 1, 6, 7] -/
def spec_LoneSightings_l0 : ACode := (.seq (.seq (.reg [⟨(some 18), .move (.tmp 7), none⟩,
    ⟨(some 19), .move (.tmp 0), none⟩,
    ⟨(some 20), .call ⟨.builtin .len, #[(.tmp 19)], #[25]⟩, none⟩,
    ⟨(some 21), .binOp .lss 3 (.tmp 18) (.tmp 20) 3, none⟩] [0, 1, 6, 7, 21])
  (.cond (.tmp 21) .skip
  (.exit 0)))
  (.seq (.block 1 (.seq (.reg [⟨(some 24), .move (.tmp 0), none⟩,
    ⟨(some 25), .move (.tmp 1), none⟩,
    ⟨(some 26), .move (.tmp 7), none⟩,
    ⟨(some 27), .call ⟨.value (.func 66), #[(.tmp 24), (.tmp 25), (.tmp 26)], #[25, 3, 3]⟩, none⟩,
    ⟨(some 28), .call ⟨.builtin .len, #[(.tmp 27)], #[34]⟩, none⟩,
    ⟨(some 29), .binOp .eql 3 (.tmp 28) (.const (.int .i64 1)) 3, none⟩] [0, 1, 6, 7, 29])
  (.cond (.tmp 29) (.reg [⟨(some 30), .move (.tmp 6), none⟩,
    ⟨(some 31), .move (.tmp 0), none⟩,
    ⟨(some 32), .move (.tmp 7), none⟩,
    ⟨(some 33), .indexAddr 25 (.tmp 31) (.tmp 32), none⟩,
    ⟨(some 34), .fieldAddr 63 (.tmp 33) 0, none⟩,
    ⟨(some 35), .load 3 (.tmp 34), none⟩,
    ⟨(some 36), .buildSlice 34 1 #[(0, (.tmp 35))], none⟩,
    ⟨(some 37), .call ⟨.builtin .append, #[(.tmp 30), (.tmp 36)], #[34, 34]⟩, none⟩,
    ⟨(some 6), .assign (.tmp 37), none⟩] [0, 1, 6, 7])
  .skip)))
  (.reg [⟨(some 22), .move (.tmp 7), none⟩,
    ⟨(some 23), .binOp .add 3 (.tmp 22) (.const (.int .i64 1)) 3, none⟩,
    ⟨(some 7), .assign (.tmp 23), none⟩] [0, 1, 6, 7])))
/-- loop.example/g01062/spec.LoneSightings: number 32, params [0, 1] -/
def spec_LoneSightings_c : ACode := (.seq (.reg [⟨(some 4), .assign (.const (.slice none 0 0)), none⟩,
    ⟨(some 5), .assign (.const (.bool false)), none⟩] [0, 1])
  (.seq (.reg [⟨(some 8), .buildSlice 34 0 #[], none⟩,
    ⟨(some 6), .assign (.tmp 8), none⟩] [0, 1, 6])
  (.seq (.seq (.reg [⟨(some 9), .move (.tmp 0), none⟩,
    ⟨(some 10), .call ⟨.value (.func 53), #[(.tmp 9)], #[25]⟩, none⟩,
    ⟨(some 11), .unOp .not 4 (.tmp 10), none⟩,
    ⟨(some 12), .move (.tmp 11), none⟩,
    ⟨(some 13), .move (.tmp 1), (some (some 12, false))⟩,
    ⟨(some 14), .call ⟨.value (.func 69), #[(.tmp 13)], #[3]⟩, (some (some 12, false))⟩,
    ⟨(some 15), .unOp .not 4 (.tmp 14), (some (some 12, false))⟩,
    ⟨(some 16), .pick (.tmp 12) (.const (.bool true)) (.tmp 15), none⟩] [0, 1, 6, 16])
  (.cond (.tmp 16) (.seq (.reg [⟨(some 17), .move (.tmp 6), none⟩,
    ⟨(some 4), .assign (.tmp 17), none⟩,
    ⟨(some 5), .assign (.const (.bool false)), none⟩] [4, 5])
  .ret)
  .skip))
  (.seq (.seq (.reg [⟨(some 7), .assign (.const (.int .i64 0)), none⟩] [0, 1, 6, 7])
  (.block 0 (.loop spec_LoneSightings_l0)))
  (.seq (.reg [⟨(some 38), .move (.tmp 6), none⟩,
    ⟨(some 4), .assign (.tmp 38), none⟩,
    ⟨(some 5), .assign (.const (.bool true)), none⟩] [4, 5])
  .ret)))))
theorem spec_LoneSightings_k : fnOk Try.prog (fun _ => false) 32 = some (spec_LoneSightings_c.strip, 39, [.tmp 4, .tmp 5]) := by kernel_rfl
/-- head: [0, 6, 19, 20, 21] -/
def impl_LoneSightings_l0 : ACode := (.seq (.reg [⟨(some 22), .binOp .lss 3 (.tmp 21) (.tmp 20) 3, none⟩] [0, 6, 19, 20, 21, 22])
  (.seq (.cond (.tmp 22) .skip
  (.exit 0))
  (.seq (.block 1 (.seq (.reg [⟨(some 23), .indexAddr 47 (.tmp 19) (.tmp 21), none⟩,
    ⟨(some 24), .load 34 (.tmp 23), none⟩,
    ⟨(some 8), .assign (.tmp 24), none⟩] [0, 6, 8, 19, 20, 21])
  (.seq (.reg [⟨(some 25), .move (.tmp 8), none⟩,
    ⟨(some 26), .call ⟨.builtin .len, #[(.tmp 25)], #[34]⟩, none⟩,
    ⟨(some 27), .binOp .eql 3 (.tmp 26) (.const (.int .i64 1)) 3, none⟩] [0, 6, 8, 19, 20, 21, 27])
  (.cond (.tmp 27) (.reg [⟨(some 28), .move (.tmp 6), none⟩,
    ⟨(some 29), .move (.tmp 0), none⟩,
    ⟨(some 30), .move (.tmp 8), none⟩,
    ⟨(some 31), .indexAddr 34 (.tmp 30) (.const (.int .i64 0)), none⟩,
    ⟨(some 32), .load 3 (.tmp 31), none⟩,
    ⟨(some 33), .indexAddr 25 (.tmp 29) (.tmp 32), none⟩,
    ⟨(some 34), .fieldAddr 63 (.tmp 33) 0, none⟩,
    ⟨(some 35), .load 3 (.tmp 34), none⟩,
    ⟨(some 36), .buildSlice 34 1 #[(0, (.tmp 35))], none⟩,
    ⟨(some 37), .call ⟨.builtin .append, #[(.tmp 28), (.tmp 36)], #[34, 34]⟩, none⟩,
    ⟨(some 6), .assign (.tmp 37), none⟩] [0, 6, 19, 20, 21])
  .skip))))
  (.reg [⟨(some 38), .binOp .add 3 (.tmp 21) (.const (.int .i64 1)) 3, none⟩,
    ⟨(some 21), .move (.tmp 38), none⟩] [0, 6, 19, 20, 21]))))
/-- loop.example/g01062/impl.LoneSightings: number 33, params [0, 1] -/
def impl_LoneSightings_c : ACode := (.seq (.reg [⟨(some 4), .assign (.const (.slice none 0 0)), none⟩,
    ⟨(some 5), .assign (.const (.bool false)), none⟩] [0, 1])
  (.seq (.seq (.reg [⟨(some 9), .move (.tmp 0), none⟩,
    ⟨(some 10), .call ⟨.value (.func 55), #[(.tmp 9)], #[25]⟩, none⟩,
    ⟨(some 11), .unOp .not 4 (.tmp 10), none⟩,
    ⟨(some 12), .move (.tmp 11), none⟩,
    ⟨(some 13), .move (.tmp 1), (some (some 12, false))⟩,
    ⟨(some 14), .call ⟨.value (.func 70), #[(.tmp 13), (.const (.int .i64 (-30))), (.const (.int .i64 16))], #[3, 3, 3]⟩, (some (some 12, false))⟩,
    ⟨(some 15), .unOp .not 4 (.tmp 14), (some (some 12, false))⟩,
    ⟨(some 16), .pick (.tmp 12) (.const (.bool true)) (.tmp 15), none⟩] [0, 1, 16])
  (.cond (.tmp 16) (.seq (.reg [⟨(some 4), .assign (.const (.slice none 0 0)), none⟩,
    ⟨(some 5), .assign (.const (.bool false)), none⟩] [4, 5])
  .ret)
  .skip))
  (.seq (.reg [⟨(some 6), .assign (.const (.slice none 0 0)), none⟩] [0, 1, 6])
  (.seq (.seq (.reg [⟨(some 17), .move (.tmp 0), none⟩,
    ⟨(some 18), .move (.tmp 1), none⟩,
    ⟨(some 19), .call ⟨.value (.func 71), #[(.tmp 17), (.tmp 18)], #[25, 3]⟩, none⟩,
    ⟨(some 20), .call ⟨.builtin .len, #[(.tmp 19)], #[47]⟩, none⟩,
    ⟨(some 21), .move (.const (.int .i64 0)), none⟩] [0, 6, 19, 20, 21])
  (.block 0 (.loop impl_LoneSightings_l0)))
  (.seq (.reg [⟨(some 39), .move (.tmp 6), none⟩,
    ⟨(some 4), .assign (.tmp 39), none⟩,
    ⟨(some 5), .assign (.const (.bool true)), none⟩] [4, 5])
  .ret)))))
theorem impl_LoneSightings_k : fnOk Try.prog (fun _ => false) 33 = some (impl_LoneSightings_c.strip, 40, [.tmp 4, .tmp 5]) := by kernel_rfl
/-- head: [0, 1, 5] -/
def laws_heldIntS_l0 : ACode := (.seq (.seq (.reg [⟨(some 6), .move (.tmp 5), none⟩,
    ⟨(some 7), .move (.tmp 0), none⟩,
    ⟨(some 8), .call ⟨.builtin .len, #[(.tmp 7)], #[34]⟩, none⟩,
    ⟨(some 9), .binOp .lss 3 (.tmp 6) (.tmp 8) 3, none⟩] [0, 1, 5, 9])
  (.cond (.tmp 9) .skip
  (.exit 0)))
  (.seq (.block 1 (.seq (.seq (.reg [⟨(some 12), .move (.tmp 0), none⟩,
    ⟨(some 13), .move (.tmp 5), none⟩,
    ⟨(some 14), .indexAddr 34 (.tmp 12) (.tmp 13), none⟩,
    ⟨(some 15), .load 3 (.tmp 14), none⟩,
    ⟨(some 16), .move (.tmp 1), none⟩,
    ⟨(some 17), .binOp .neq 3 (.tmp 15) (.tmp 16) 3, none⟩] [0, 1, 5, 17])
  (.cond (.tmp 17) (.seq (.reg [⟨(some 4), .assign (.const (.int .i64 (-1))), none⟩] [4])
  .ret)
  .skip))
  (.reg [⟨(some 18), .move (.tmp 1), none⟩,
    ⟨(some 19), .binOp .add 3 (.tmp 18) (.const (.int .i64 1)) 3, none⟩,
    ⟨(some 1), .assign (.tmp 19), none⟩] [0, 1, 5])))
  (.reg [⟨(some 10), .move (.tmp 5), none⟩,
    ⟨(some 11), .binOp .add 3 (.tmp 10) (.const (.int .i64 1)) 3, none⟩,
    ⟨(some 5), .assign (.tmp 11), none⟩] [0, 1, 5])))
/-- loop.example/g01062/laws.heldIntS: number 34, params [0, 1] -/
def laws_heldIntS_c : ACode := (.seq (.reg [⟨(some 4), .assign (.const (.int .i64 0)), none⟩] [0, 1])
  (.seq (.seq (.reg [⟨(some 5), .assign (.const (.int .i64 0)), none⟩] [0, 1, 5])
  (.block 0 (.loop laws_heldIntS_l0)))
  (.seq (.reg [⟨(some 20), .move (.tmp 1), none⟩,
    ⟨(some 4), .assign (.tmp 20), none⟩] [4])
  .ret)))
theorem laws_heldIntS_k : fnOk Try.prog (fun _ => false) 34 = some (laws_heldIntS_c.strip, 21, [.tmp 4]) := by kernel_rfl
/-- head: [0, 10, 11, 12, 13] -/
def spec_YearsSeen_l0 : ACode := (.seq (.seq (.reg [⟨(some 43), .move (.tmp 13), none⟩,
    ⟨(some 44), .move (.tmp 12), none⟩,
    ⟨(some 45), .call ⟨.builtin .len, #[(.tmp 44)], #[34]⟩, none⟩,
    ⟨(some 46), .binOp .lss 3 (.tmp 43) (.tmp 45) 3, none⟩] [0, 10, 11, 12, 13, 46])
  (.cond (.tmp 46) .skip
  (.exit 0)))
  (.seq (.block 1 (.seq (.reg [⟨(some 49), .move (.tmp 10), none⟩,
    ⟨(some 50), .move (.tmp 0), none⟩,
    ⟨(some 51), .move (.tmp 12), none⟩,
    ⟨(some 52), .move (.tmp 13), none⟩,
    ⟨(some 53), .indexAddr 34 (.tmp 51) (.tmp 52), none⟩,
    ⟨(some 54), .load 3 (.tmp 53), none⟩,
    ⟨(some 55), .indexAddr 25 (.tmp 50) (.tmp 54), none⟩,
    ⟨(some 56), .fieldAddr 63 (.tmp 55) 1, none⟩,
    ⟨(some 57), .load 3 (.tmp 56), none⟩,
    ⟨(some 58), .call ⟨.value (.func 72), #[(.tmp 49), (.tmp 57)], #[3, 3]⟩, none⟩,
    ⟨(some 10), .assign (.tmp 58), none⟩] [0, 10, 11, 12, 13])
  (.reg [⟨(some 59), .move (.tmp 11), none⟩,
    ⟨(some 60), .move (.tmp 0), none⟩,
    ⟨(some 61), .move (.tmp 12), none⟩,
    ⟨(some 62), .move (.tmp 13), none⟩,
    ⟨(some 63), .indexAddr 34 (.tmp 61) (.tmp 62), none⟩,
    ⟨(some 64), .load 3 (.tmp 63), none⟩,
    ⟨(some 65), .indexAddr 25 (.tmp 60) (.tmp 64), none⟩,
    ⟨(some 66), .fieldAddr 63 (.tmp 65) 1, none⟩,
    ⟨(some 67), .load 3 (.tmp 66), none⟩,
    ⟨(some 68), .call ⟨.value (.func 73), #[(.tmp 59), (.tmp 67)], #[3, 3]⟩, none⟩,
    ⟨(some 11), .assign (.tmp 68), none⟩] [0, 10, 11, 12, 13])))
  (.reg [⟨(some 47), .move (.tmp 13), none⟩,
    ⟨(some 48), .binOp .add 3 (.tmp 47) (.const (.int .i64 1)) 3, none⟩,
    ⟨(some 13), .assign (.tmp 48), none⟩] [0, 10, 11, 12, 13])))
/-- loop.example/g01062/spec.YearsSeen: number 35, params [0, 1, 2] -/
def spec_YearsSeen_c : ACode := (.seq (.reg [⟨(some 6), .assign (.const (.int .i64 0)), none⟩,
    ⟨(some 7), .assign (.const (.int .i64 0)), none⟩,
    ⟨(some 8), .assign (.const (.bool false)), none⟩] [0, 1, 2])
  (.seq (.reg [⟨(some 14), .move (.tmp 0), none⟩,
    ⟨(some 15), .move (.tmp 2), none⟩,
    ⟨(some 16), .call ⟨.value (.func 59), #[(.tmp 14), (.tmp 15)], #[25, 3]⟩, none⟩,
    ⟨(some 9), .assign (.tmp 16), none⟩] [0, 1, 9])
  (.seq (.seq (.reg [⟨(some 17), .move (.tmp 0), none⟩,
    ⟨(some 18), .call ⟨.value (.func 53), #[(.tmp 17)], #[25]⟩, none⟩,
    ⟨(some 19), .unOp .not 4 (.tmp 18), none⟩,
    ⟨(some 20), .move (.tmp 19), none⟩,
    ⟨(some 21), .move (.tmp 1), (some (some 20, false))⟩,
    ⟨(some 22), .call ⟨.value (.func 69), #[(.tmp 21)], #[3]⟩, (some (some 20, false))⟩,
    ⟨(some 23), .unOp .not 4 (.tmp 22), (some (some 20, false))⟩,
    ⟨(some 24), .pick (.tmp 20) (.const (.bool true)) (.tmp 23), none⟩,
    ⟨(some 25), .move (.tmp 24), none⟩,
    ⟨(some 26), .move (.tmp 9), (some (some 25, false))⟩,
    ⟨(some 27), .binOp .lss 3 (.tmp 26) (.const (.int .i64 0)) 3, (some (some 25, false))⟩,
    ⟨(some 28), .pick (.tmp 25) (.const (.bool true)) (.tmp 27), none⟩] [0, 1, 9, 28])
  (.cond (.tmp 28) (.seq (.reg [⟨(some 6), .assign (.const (.int .i64 0)), none⟩,
    ⟨(some 7), .assign (.const (.int .i64 0)), none⟩,
    ⟨(some 8), .assign (.const (.bool false)), none⟩] [6, 7, 8])
  .ret)
  .skip))
  (.seq (.regQ [⟨(some 29), .move (.tmp 0), none⟩,
    ⟨(some 30), .move (.tmp 9), none⟩,
    ⟨(some 31), .indexAddr 25 (.tmp 29) (.tmp 30), none⟩,
    ⟨(some 32), .fieldAddr 63 (.tmp 31) 1, none⟩,
    ⟨(some 33), .load 3 (.tmp 32), none⟩,
    ⟨(some 34), .move (.tmp 0), none⟩,
    ⟨(some 35), .move (.tmp 9), none⟩,
    ⟨(some 36), .indexAddr 25 (.tmp 34) (.tmp 35), none⟩,
    ⟨(some 37), .fieldAddr 63 (.tmp 36) 1, none⟩,
    ⟨(some 38), .load 3 (.tmp 37), none⟩,
    ⟨(some 10), .assign (.tmp 33), none⟩,
    ⟨(some 11), .assign (.tmp 38), none⟩] [0, 1, 9, 10, 11])
  (.seq (.reg [⟨(some 39), .move (.tmp 0), none⟩,
    ⟨(some 40), .move (.tmp 1), none⟩,
    ⟨(some 41), .move (.tmp 9), none⟩,
    ⟨(some 42), .call ⟨.value (.func 66), #[(.tmp 39), (.tmp 40), (.tmp 41)], #[25, 3, 3]⟩, none⟩,
    ⟨(some 12), .assign (.tmp 42), none⟩] [0, 10, 11, 12])
  (.seq (.seq (.reg [⟨(some 13), .assign (.const (.int .i64 0)), none⟩] [0, 10, 11, 12, 13])
  (.block 0 (.loop spec_YearsSeen_l0)))
  (.seq (.reg [⟨(some 69), .move (.tmp 10), none⟩,
    ⟨(some 70), .move (.tmp 11), none⟩,
    ⟨(some 6), .assign (.tmp 69), none⟩,
    ⟨(some 7), .assign (.tmp 70), none⟩,
    ⟨(some 8), .assign (.const (.bool true)), none⟩] [6, 7, 8])
  .ret)))))))
theorem spec_YearsSeen_k : fnOk Try.prog (fun _ => false) 35 = some (spec_YearsSeen_c.strip, 71, [.tmp 6, .tmp 7, .tmp 8]) := by kernel_rfl
/-- head: [0, 9, 10, 30, 31, 32] -/
def impl_YearsSeen_l0 : ACode := (.seq (.reg [⟨(some 33), .binOp .lss 3 (.tmp 32) (.tmp 31) 3, none⟩] [0, 9, 10, 30, 31, 32, 33])
  (.seq (.cond (.tmp 33) .skip
  (.exit 0))
  (.seq (.block 1 (.seq (.reg [⟨(some 34), .indexAddr 34 (.tmp 30) (.tmp 32), none⟩,
    ⟨(some 35), .load 3 (.tmp 34), none⟩,
    ⟨(some 12), .assign (.tmp 35), none⟩] [0, 9, 10, 12, 30, 31, 32])
  (.regQ [⟨(some 36), .move (.tmp 9), none⟩,
    ⟨(some 37), .move (.tmp 0), none⟩,
    ⟨(some 38), .move (.tmp 12), none⟩,
    ⟨(some 39), .indexAddr 25 (.tmp 37) (.tmp 38), none⟩,
    ⟨(some 40), .fieldAddr 63 (.tmp 39) 1, none⟩,
    ⟨(some 41), .load 3 (.tmp 40), none⟩,
    ⟨(some 42), .call ⟨.builtin .min, #[(.tmp 36), (.tmp 41)], #[3, 3]⟩, none⟩,
    ⟨(some 43), .move (.tmp 10), none⟩,
    ⟨(some 44), .move (.tmp 0), none⟩,
    ⟨(some 45), .move (.tmp 12), none⟩,
    ⟨(some 46), .indexAddr 25 (.tmp 44) (.tmp 45), none⟩,
    ⟨(some 47), .fieldAddr 63 (.tmp 46) 1, none⟩,
    ⟨(some 48), .load 3 (.tmp 47), none⟩,
    ⟨(some 49), .call ⟨.builtin .max, #[(.tmp 43), (.tmp 48)], #[3, 3]⟩, none⟩,
    ⟨(some 9), .assign (.tmp 42), none⟩,
    ⟨(some 10), .assign (.tmp 49), none⟩] [0, 9, 10, 30, 31, 32])))
  (.reg [⟨(some 50), .binOp .add 3 (.tmp 32) (.const (.int .i64 1)) 3, none⟩,
    ⟨(some 32), .move (.tmp 50), none⟩] [0, 9, 10, 30, 31, 32]))))
/-- loop.example/g01062/impl.YearsSeen: number 36, params [0, 1, 2] -/
def impl_YearsSeen_c : ACode := (.seq (.reg [⟨(some 6), .assign (.const (.int .i64 0)), none⟩,
    ⟨(some 7), .assign (.const (.int .i64 0)), none⟩,
    ⟨(some 8), .assign (.const (.bool false)), none⟩] [0, 1, 2])
  (.seq (.seq (.reg [⟨(some 13), .move (.tmp 0), none⟩,
    ⟨(some 14), .call ⟨.value (.func 55), #[(.tmp 13)], #[25]⟩, none⟩,
    ⟨(some 15), .unOp .not 4 (.tmp 14), none⟩,
    ⟨(some 16), .move (.tmp 15), none⟩,
    ⟨(some 17), .move (.tmp 1), (some (some 16, false))⟩,
    ⟨(some 18), .call ⟨.value (.func 70), #[(.tmp 17), (.const (.int .i64 (-30))), (.const (.int .i64 16))], #[3, 3, 3]⟩, (some (some 16, false))⟩,
    ⟨(some 19), .unOp .not 4 (.tmp 18), (some (some 16, false))⟩,
    ⟨(some 20), .pick (.tmp 16) (.const (.bool true)) (.tmp 19), none⟩,
    ⟨(some 21), .move (.tmp 20), none⟩,
    ⟨(some 22), .move (.tmp 0), (some (some 21, false))⟩,
    ⟨(some 23), .move (.tmp 2), (some (some 21, false))⟩,
    ⟨(some 24), .call ⟨.value (.func 60), #[(.tmp 22), (.tmp 23)], #[25, 3]⟩, (some (some 21, false))⟩,
    ⟨(some 25), .binOp .lss 3 (.tmp 24) (.const (.int .i64 0)) 3, (some (some 21, false))⟩,
    ⟨(some 26), .pick (.tmp 21) (.const (.bool true)) (.tmp 25), none⟩] [0, 1, 2, 26])
  (.cond (.tmp 26) (.seq (.reg [⟨(some 6), .assign (.const (.int .i64 0)), none⟩,
    ⟨(some 7), .assign (.const (.int .i64 0)), none⟩,
    ⟨(some 8), .assign (.const (.bool false)), none⟩] [6, 7, 8])
  .ret)
  .skip))
  (.seq (.reg [⟨(some 9), .assign (.const (.int .i64 2100)), none⟩,
    ⟨(some 10), .assign (.const (.int .i64 1840)), none⟩] [0, 1, 2, 9, 10])
  (.seq (.seq (.reg [⟨(some 27), .move (.tmp 0), none⟩,
    ⟨(some 28), .move (.tmp 1), none⟩,
    ⟨(some 29), .move (.tmp 2), none⟩,
    ⟨(some 30), .call ⟨.value (.func 68), #[(.tmp 27), (.tmp 28), (.tmp 29)], #[25, 3, 3]⟩, none⟩,
    ⟨(some 31), .call ⟨.builtin .len, #[(.tmp 30)], #[34]⟩, none⟩,
    ⟨(some 32), .move (.const (.int .i64 0)), none⟩] [0, 9, 10, 30, 31, 32])
  (.block 0 (.loop impl_YearsSeen_l0)))
  (.seq (.reg [⟨(some 51), .move (.tmp 9), none⟩,
    ⟨(some 52), .move (.tmp 10), none⟩,
    ⟨(some 6), .assign (.tmp 51), none⟩,
    ⟨(some 7), .assign (.tmp 52), none⟩,
    ⟨(some 8), .assign (.const (.bool true)), none⟩] [6, 7, 8])
  .ret)))))
theorem impl_YearsSeen_k : fnOk Try.prog (fun _ => false) 36 = some (impl_YearsSeen_c.strip, 53, [.tmp 6, .tmp 7, .tmp 8]) := by kernel_rfl
/-- head: [0, 1, 6, 7, 8, 9, 10] -/
def spec_CoversSeen_l0 : ACode := (.seq (.seq (.reg [⟨(some 37), .move (.tmp 10), none⟩,
    ⟨(some 38), .move (.tmp 8), none⟩,
    ⟨(some 39), .call ⟨.builtin .len, #[(.tmp 38)], #[34]⟩, none⟩,
    ⟨(some 40), .binOp .lss 3 (.tmp 37) (.tmp 39) 3, none⟩] [0, 1, 6, 7, 8, 9, 10, 40])
  (.cond (.tmp 40) .skip
  (.exit 2)))
  (.seq (.block 3 (.reg [⟨(some 43), .move (.tmp 9), none⟩,
    ⟨(some 44), .move (.tmp 0), none⟩,
    ⟨(some 45), .move (.tmp 8), none⟩,
    ⟨(some 46), .move (.tmp 10), none⟩,
    ⟨(some 47), .indexAddr 34 (.tmp 45) (.tmp 46), none⟩,
    ⟨(some 48), .load 3 (.tmp 47), none⟩,
    ⟨(some 49), .indexAddr 25 (.tmp 44) (.tmp 48), none⟩,
    ⟨(some 50), .fieldAddr 63 (.tmp 49) 0, none⟩,
    ⟨(some 51), .load 3 (.tmp 50), none⟩,
    ⟨(some 52), .buildSlice 34 1 #[(0, (.tmp 51))], none⟩,
    ⟨(some 53), .call ⟨.builtin .append, #[(.tmp 43), (.tmp 52)], #[34, 34]⟩, none⟩,
    ⟨(some 9), .assign (.tmp 53), none⟩] [0, 1, 6, 7, 8, 9, 10]))
  (.reg [⟨(some 41), .move (.tmp 10), none⟩,
    ⟨(some 42), .binOp .add 3 (.tmp 41) (.const (.int .i64 1)) 3, none⟩,
    ⟨(some 10), .assign (.tmp 42), none⟩] [0, 1, 6, 7, 8, 9, 10])))
/-- head: [0, 1, 6, 7] -/
def spec_CoversSeen_l1 : ACode := (.seq (.seq (.reg [⟨(some 21), .move (.tmp 7), none⟩,
    ⟨(some 22), .move (.tmp 0), none⟩,
    ⟨(some 23), .call ⟨.builtin .len, #[(.tmp 22)], #[25]⟩, none⟩,
    ⟨(some 24), .binOp .lss 3 (.tmp 21) (.tmp 23) 3, none⟩] [0, 1, 6, 7, 24])
  (.cond (.tmp 24) .skip
  (.exit 0)))
  (.seq (.block 1 (.seq (.reg [⟨(some 27), .move (.tmp 0), none⟩,
    ⟨(some 28), .move (.tmp 1), none⟩,
    ⟨(some 29), .move (.tmp 7), none⟩,
    ⟨(some 30), .call ⟨.value (.func 66), #[(.tmp 27), (.tmp 28), (.tmp 29)], #[25, 3, 3]⟩, none⟩,
    ⟨(some 8), .assign (.tmp 30), none⟩] [0, 1, 6, 7, 8])
  (.seq (.seq (.reg [⟨(some 31), .move (.tmp 8), none⟩,
    ⟨(some 32), .indexAddr 34 (.tmp 31) (.const (.int .i64 0)), none⟩,
    ⟨(some 33), .load 3 (.tmp 32), none⟩,
    ⟨(some 34), .move (.tmp 7), none⟩,
    ⟨(some 35), .binOp .lss 3 (.tmp 33) (.tmp 34) 3, none⟩] [0, 1, 6, 7, 8, 35])
  (.cond (.tmp 35) (.exit 1)
  .skip))
  (.seq (.reg [⟨(some 36), .buildSlice 34 0 #[], none⟩,
    ⟨(some 9), .assign (.tmp 36), none⟩] [0, 1, 6, 7, 8, 9])
  (.seq (.seq (.reg [⟨(some 10), .assign (.const (.int .i64 0)), none⟩] [0, 1, 6, 7, 8, 9, 10])
  (.block 2 (.loop spec_CoversSeen_l0)))
  (.reg [⟨(some 54), .move (.tmp 6), none⟩,
    ⟨(some 55), .move (.tmp 9), none⟩,
    ⟨(some 56), .buildSlice 47 1 #[(0, (.tmp 55))], none⟩,
    ⟨(some 57), .call ⟨.builtin .append, #[(.tmp 54), (.tmp 56)], #[47, 47]⟩, none⟩,
    ⟨(some 6), .assign (.tmp 57), none⟩] [0, 1, 6, 7]))))))
  (.reg [⟨(some 25), .move (.tmp 7), none⟩,
    ⟨(some 26), .binOp .add 3 (.tmp 25) (.const (.int .i64 1)) 3, none⟩,
    ⟨(some 7), .assign (.tmp 26), none⟩] [0, 1, 6, 7])))
/-- loop.example/g01062/spec.CoversSeen: number 37, params [0, 1] -/
def spec_CoversSeen_c : ACode := (.seq (.reg [⟨(some 4), .assign (.const (.slice none 0 0)), none⟩,
    ⟨(some 5), .assign (.const (.bool false)), none⟩] [0, 1])
  (.seq (.reg [⟨(some 11), .buildSlice 47 0 #[], none⟩,
    ⟨(some 6), .assign (.tmp 11), none⟩] [0, 1, 6])
  (.seq (.seq (.reg [⟨(some 12), .move (.tmp 0), none⟩,
    ⟨(some 13), .call ⟨.value (.func 53), #[(.tmp 12)], #[25]⟩, none⟩,
    ⟨(some 14), .unOp .not 4 (.tmp 13), none⟩,
    ⟨(some 15), .move (.tmp 14), none⟩,
    ⟨(some 16), .move (.tmp 1), (some (some 15, false))⟩,
    ⟨(some 17), .call ⟨.value (.func 69), #[(.tmp 16)], #[3]⟩, (some (some 15, false))⟩,
    ⟨(some 18), .unOp .not 4 (.tmp 17), (some (some 15, false))⟩,
    ⟨(some 19), .pick (.tmp 15) (.const (.bool true)) (.tmp 18), none⟩] [0, 1, 6, 19])
  (.cond (.tmp 19) (.seq (.reg [⟨(some 20), .move (.tmp 6), none⟩,
    ⟨(some 4), .assign (.tmp 20), none⟩,
    ⟨(some 5), .assign (.const (.bool false)), none⟩] [4, 5])
  .ret)
  .skip))
  (.seq (.seq (.reg [⟨(some 7), .assign (.const (.int .i64 0)), none⟩] [0, 1, 6, 7])
  (.block 0 (.loop spec_CoversSeen_l1)))
  (.seq (.reg [⟨(some 58), .move (.tmp 6), none⟩,
    ⟨(some 4), .assign (.tmp 58), none⟩,
    ⟨(some 5), .assign (.const (.bool true)), none⟩] [4, 5])
  .ret)))))
theorem spec_CoversSeen_k : fnOk Try.prog (fun _ => false) 37 = some (spec_CoversSeen_c.strip, 59, [.tmp 4, .tmp 5]) := by kernel_rfl
/-- head: [0, 6, 9, 22, 23, 24, 28, 29, 30] -/
def impl_CoversSeen_l0 : ACode := (.seq (.reg [⟨(some 31), .binOp .lss 3 (.tmp 30) (.tmp 29) 3, none⟩] [0, 6, 9, 22, 23, 24, 28, 29, 30, 31])
  (.seq (.cond (.tmp 31) .skip
  (.exit 2))
  (.seq (.block 3 (.seq (.reg [⟨(some 32), .indexAddr 34 (.tmp 28) (.tmp 30), none⟩,
    ⟨(some 33), .load 3 (.tmp 32), none⟩,
    ⟨(some 11), .assign (.tmp 33), none⟩] [0, 6, 9, 11, 22, 23, 24, 28, 29, 30])
  (.reg [⟨(some 34), .move (.tmp 9), none⟩,
    ⟨(some 35), .move (.tmp 0), none⟩,
    ⟨(some 36), .move (.tmp 11), none⟩,
    ⟨(some 37), .indexAddr 25 (.tmp 35) (.tmp 36), none⟩,
    ⟨(some 38), .fieldAddr 63 (.tmp 37) 0, none⟩,
    ⟨(some 39), .load 3 (.tmp 38), none⟩,
    ⟨(some 40), .buildSlice 34 1 #[(0, (.tmp 39))], none⟩,
    ⟨(some 41), .call ⟨.builtin .append, #[(.tmp 34), (.tmp 40)], #[34, 34]⟩, none⟩,
    ⟨(some 9), .assign (.tmp 41), none⟩] [0, 6, 9, 22, 23, 24, 28, 29, 30])))
  (.reg [⟨(some 42), .binOp .add 3 (.tmp 30) (.const (.int .i64 1)) 3, none⟩,
    ⟨(some 30), .move (.tmp 42), none⟩] [0, 6, 9, 22, 23, 24, 28, 29, 30]))))
/-- head: [0, 6, 22, 23, 24] -/
def impl_CoversSeen_l1 : ACode := (.seq (.reg [⟨(some 25), .binOp .lss 3 (.tmp 24) (.tmp 23) 3, none⟩] [0, 6, 22, 23, 24, 25])
  (.seq (.cond (.tmp 25) .skip
  (.exit 0))
  (.seq (.block 1 (.seq (.reg [⟨(some 26), .indexAddr 47 (.tmp 22) (.tmp 24), none⟩,
    ⟨(some 27), .load 34 (.tmp 26), none⟩,
    ⟨(some 8), .assign (.tmp 27), none⟩] [0, 6, 8, 22, 23, 24])
  (.seq (.reg [⟨(some 9), .assign (.const (.slice none 0 0)), none⟩] [0, 6, 8, 9, 22, 23, 24])
  (.seq (.seq (.reg [⟨(some 28), .move (.tmp 8), none⟩,
    ⟨(some 29), .call ⟨.builtin .len, #[(.tmp 28)], #[34]⟩, none⟩,
    ⟨(some 30), .move (.const (.int .i64 0)), none⟩] [0, 6, 9, 22, 23, 24, 28, 29, 30])
  (.block 2 (.loop impl_CoversSeen_l0)))
  (.reg [⟨(some 43), .move (.tmp 6), none⟩,
    ⟨(some 44), .move (.tmp 9), none⟩,
    ⟨(some 45), .buildSlice 47 1 #[(0, (.tmp 44))], none⟩,
    ⟨(some 46), .call ⟨.builtin .append, #[(.tmp 43), (.tmp 45)], #[47, 47]⟩, none⟩,
    ⟨(some 6), .assign (.tmp 46), none⟩] [0, 6, 22, 23, 24])))))
  (.reg [⟨(some 47), .binOp .add 3 (.tmp 24) (.const (.int .i64 1)) 3, none⟩,
    ⟨(some 24), .move (.tmp 47), none⟩] [0, 6, 22, 23, 24]))))
/-- loop.example/g01062/impl.CoversSeen: number 38, params [0, 1] -/
def impl_CoversSeen_c : ACode := (.seq (.reg [⟨(some 4), .assign (.const (.slice none 0 0)), none⟩,
    ⟨(some 5), .assign (.const (.bool false)), none⟩] [0, 1])
  (.seq (.seq (.reg [⟨(some 12), .move (.tmp 0), none⟩,
    ⟨(some 13), .call ⟨.value (.func 55), #[(.tmp 12)], #[25]⟩, none⟩,
    ⟨(some 14), .unOp .not 4 (.tmp 13), none⟩,
    ⟨(some 15), .move (.tmp 14), none⟩,
    ⟨(some 16), .move (.tmp 1), (some (some 15, false))⟩,
    ⟨(some 17), .call ⟨.value (.func 70), #[(.tmp 16), (.const (.int .i64 (-30))), (.const (.int .i64 16))], #[3, 3, 3]⟩, (some (some 15, false))⟩,
    ⟨(some 18), .unOp .not 4 (.tmp 17), (some (some 15, false))⟩,
    ⟨(some 19), .pick (.tmp 15) (.const (.bool true)) (.tmp 18), none⟩] [0, 1, 19])
  (.cond (.tmp 19) (.seq (.reg [⟨(some 4), .assign (.const (.slice none 0 0)), none⟩,
    ⟨(some 5), .assign (.const (.bool false)), none⟩] [4, 5])
  .ret)
  .skip))
  (.seq (.reg [⟨(some 6), .assign (.const (.slice none 0 0)), none⟩] [0, 1, 6])
  (.seq (.seq (.reg [⟨(some 20), .move (.tmp 0), none⟩,
    ⟨(some 21), .move (.tmp 1), none⟩,
    ⟨(some 22), .call ⟨.value (.func 71), #[(.tmp 20), (.tmp 21)], #[25, 3]⟩, none⟩,
    ⟨(some 23), .call ⟨.builtin .len, #[(.tmp 22)], #[47]⟩, none⟩,
    ⟨(some 24), .move (.const (.int .i64 0)), none⟩] [0, 6, 22, 23, 24])
  (.block 0 (.loop impl_CoversSeen_l1)))
  (.seq (.reg [⟨(some 48), .move (.tmp 6), none⟩,
    ⟨(some 4), .assign (.tmp 48), none⟩,
    ⟨(some 5), .assign (.const (.bool true)), none⟩] [4, 5])
  .ret)))))
theorem impl_CoversSeen_k : fnOk Try.prog (fun _ => false) 38 = some (impl_CoversSeen_c.strip, 49, [.tmp 4, .tmp 5]) := by kernel_rfl
/-- head: [0, 1, 5] -/
def laws_eqIntSS_l0 : ACode := (.seq (.seq (.reg [⟨(some 11), .move (.tmp 5), none⟩,
    ⟨(some 12), .move (.tmp 0), none⟩,
    ⟨(some 13), .call ⟨.builtin .len, #[(.tmp 12)], #[47]⟩, none⟩,
    ⟨(some 14), .binOp .lss 3 (.tmp 11) (.tmp 13) 3, none⟩] [0, 1, 5, 14])
  (.cond (.tmp 14) .skip
  (.exit 0)))
  (.seq (.block 1 (.seq (.regQ [⟨(some 17), .move (.tmp 0), none⟩,
    ⟨(some 18), .move (.tmp 5), none⟩,
    ⟨(some 19), .indexAddr 47 (.tmp 17) (.tmp 18), none⟩,
    ⟨(some 20), .load 34 (.tmp 19), none⟩,
    ⟨(some 21), .move (.tmp 1), none⟩,
    ⟨(some 22), .move (.tmp 5), none⟩,
    ⟨(some 23), .indexAddr 47 (.tmp 21) (.tmp 22), none⟩,
    ⟨(some 24), .load 34 (.tmp 23), none⟩,
    ⟨(some 25), .call ⟨.value (.func 26), #[(.tmp 20), (.tmp 24)], #[34, 34]⟩, none⟩,
    ⟨(some 26), .unOp .not 4 (.tmp 25), none⟩] [0, 1, 5, 26])
  (.cond (.tmp 26) (.seq (.reg [⟨(some 4), .assign (.const (.bool false)), none⟩] [4])
  .ret)
  .skip)))
  (.reg [⟨(some 15), .move (.tmp 5), none⟩,
    ⟨(some 16), .binOp .add 3 (.tmp 15) (.const (.int .i64 1)) 3, none⟩,
    ⟨(some 5), .assign (.tmp 16), none⟩] [0, 1, 5])))
/-- loop.example/g01062/laws.eqIntSS: number 39, params [0, 1] -/
def laws_eqIntSS_c : ACode := (.seq (.reg [⟨(some 4), .assign (.const (.bool false)), none⟩] [0, 1])
  (.seq (.seq (.reg [⟨(some 6), .move (.tmp 0), none⟩,
    ⟨(some 7), .call ⟨.builtin .len, #[(.tmp 6)], #[47]⟩, none⟩,
    ⟨(some 8), .move (.tmp 1), none⟩,
    ⟨(some 9), .call ⟨.builtin .len, #[(.tmp 8)], #[47]⟩, none⟩,
    ⟨(some 10), .binOp .neq 3 (.tmp 7) (.tmp 9) 3, none⟩] [0, 1, 10])
  (.cond (.tmp 10) (.seq (.reg [⟨(some 4), .assign (.const (.bool false)), none⟩] [4])
  .ret)
  .skip))
  (.seq (.seq (.reg [⟨(some 5), .assign (.const (.int .i64 0)), none⟩] [0, 1, 5])
  (.block 0 (.loop laws_eqIntSS_l0)))
  (.seq (.reg [⟨(some 4), .assign (.const (.bool true)), none⟩] [4])
  .ret))))
theorem laws_eqIntSS_k : fnOk Try.prog (fun _ => false) 39 = some (laws_eqIntSS_c.strip, 27, [.tmp 4]) := by kernel_rfl
/-- head: [0, 1, 5] -/
def laws_markIntSS_l0 : ACode := (.seq (.seq (.reg [⟨(some 6), .move (.tmp 5), none⟩,
    ⟨(some 7), .move (.tmp 0), none⟩,
    ⟨(some 8), .call ⟨.builtin .len, #[(.tmp 7)], #[47]⟩, none⟩,
    ⟨(some 9), .binOp .lss 3 (.tmp 6) (.tmp 8) 3, none⟩] [0, 1, 5, 9])
  (.cond (.tmp 9) .skip
  (.exit 0)))
  (.seq (.block 1 (.reg [⟨(some 12), .move (.tmp 0), none⟩,
    ⟨(some 13), .move (.tmp 5), none⟩,
    ⟨(some 14), .indexAddr 47 (.tmp 12) (.tmp 13), none⟩,
    ⟨(some 15), .load 34 (.tmp 14), none⟩,
    ⟨(some 16), .move (.tmp 1), none⟩,
    ⟨(some 17), .call ⟨.value (.func 28), #[(.tmp 15), (.tmp 16)], #[34, 3]⟩, none⟩,
    ⟨(some 1), .assign (.tmp 17), none⟩] [0, 1, 5]))
  (.reg [⟨(some 10), .move (.tmp 5), none⟩,
    ⟨(some 11), .binOp .add 3 (.tmp 10) (.const (.int .i64 1)) 3, none⟩,
    ⟨(some 5), .assign (.tmp 11), none⟩] [0, 1, 5])))
/-- loop.example/g01062/laws.markIntSS: number 40, params [0, 1] -/
def laws_markIntSS_c : ACode := (.seq (.reg [⟨(some 4), .assign (.const (.int .i64 0)), none⟩] [0, 1])
  (.seq (.seq (.reg [⟨(some 5), .assign (.const (.int .i64 0)), none⟩] [0, 1, 5])
  (.block 0 (.loop laws_markIntSS_l0)))
  (.seq (.reg [⟨(some 18), .move (.tmp 1), none⟩,
    ⟨(some 4), .assign (.tmp 18), none⟩] [4])
  .ret)))
theorem laws_markIntSS_k : fnOk Try.prog (fun _ => false) 40 = some (laws_markIntSS_c.strip, 19, [.tmp 4]) := by kernel_rfl
/-- head: [0, 1, 5] -/
def laws_heldIntSS_l0 : ACode := (.seq (.seq (.reg [⟨(some 6), .move (.tmp 5), none⟩,
    ⟨(some 7), .move (.tmp 0), none⟩,
    ⟨(some 8), .call ⟨.builtin .len, #[(.tmp 7)], #[47]⟩, none⟩,
    ⟨(some 9), .binOp .lss 3 (.tmp 6) (.tmp 8) 3, none⟩] [0, 1, 5, 9])
  (.cond (.tmp 9) .skip
  (.exit 0)))
  (.seq (.block 1 (.seq (.reg [⟨(some 12), .move (.tmp 0), none⟩,
    ⟨(some 13), .move (.tmp 5), none⟩,
    ⟨(some 14), .indexAddr 47 (.tmp 12) (.tmp 13), none⟩,
    ⟨(some 15), .load 34 (.tmp 14), none⟩,
    ⟨(some 16), .move (.tmp 1), none⟩,
    ⟨(some 17), .call ⟨.value (.func 34), #[(.tmp 15), (.tmp 16)], #[34, 3]⟩, none⟩,
    ⟨(some 1), .assign (.tmp 17), none⟩] [0, 1, 5])
  (.seq (.reg [⟨(some 18), .move (.tmp 1), none⟩,
    ⟨(some 19), .binOp .lss 3 (.tmp 18) (.const (.int .i64 0)) 3, none⟩] [0, 1, 5, 19])
  (.cond (.tmp 19) (.seq (.reg [⟨(some 4), .assign (.const (.int .i64 (-1))), none⟩] [4])
  .ret)
  .skip))))
  (.reg [⟨(some 10), .move (.tmp 5), none⟩,
    ⟨(some 11), .binOp .add 3 (.tmp 10) (.const (.int .i64 1)) 3, none⟩,
    ⟨(some 5), .assign (.tmp 11), none⟩] [0, 1, 5])))
/-- loop.example/g01062/laws.heldIntSS: number 41, params [0, 1] -/
def laws_heldIntSS_c : ACode := (.seq (.reg [⟨(some 4), .assign (.const (.int .i64 0)), none⟩] [0, 1])
  (.seq (.seq (.reg [⟨(some 5), .assign (.const (.int .i64 0)), none⟩] [0, 1, 5])
  (.block 0 (.loop laws_heldIntSS_l0)))
  (.seq (.reg [⟨(some 20), .move (.tmp 1), none⟩,
    ⟨(some 4), .assign (.tmp 20), none⟩] [4])
  .ret)))
theorem laws_heldIntSS_k : fnOk Try.prog (fun _ => false) 41 = some (laws_heldIntSS_c.strip, 21, [.tmp 4]) := by kernel_rfl
/-- head: [0, 8, 10, 11, 12, 13] -/
def spec_TraitsSeen_l0 : ACode := (.seq (.seq (.reg [⟨(some 49), .move (.tmp 13), none⟩,
    ⟨(some 50), .move (.tmp 12), none⟩,
    ⟨(some 51), .call ⟨.builtin .len, #[(.tmp 50)], #[34]⟩, none⟩,
    ⟨(some 52), .binOp .lss 3 (.tmp 49) (.tmp 51) 3, none⟩] [0, 8, 10, 11, 12, 13, 52])
  (.cond (.tmp 52) .skip
  (.exit 2)))
  (.seq (.block 3 (.reg [⟨(some 55), .move (.tmp 8), none⟩,
    ⟨(some 56), .move (.tmp 12), none⟩,
    ⟨(some 57), .move (.tmp 13), none⟩,
    ⟨(some 58), .indexAddr 34 (.tmp 56) (.tmp 57), none⟩,
    ⟨(some 59), .load 3 (.tmp 58), none⟩,
    ⟨(some 60), .call ⟨.value (.func 74), #[(.tmp 55), (.tmp 59)], #[34, 3]⟩, none⟩,
    ⟨(some 8), .assign (.tmp 60), none⟩] [0, 8, 10, 11, 12, 13]))
  (.reg [⟨(some 53), .move (.tmp 13), none⟩,
    ⟨(some 54), .binOp .add 3 (.tmp 53) (.const (.int .i64 1)) 3, none⟩,
    ⟨(some 13), .assign (.tmp 54), none⟩] [0, 8, 10, 11, 12, 13])))
/-- head: [0, 8, 10, 11] -/
def spec_TraitsSeen_l1 : ACode := (.seq (.seq (.reg [⟨(some 35), .move (.tmp 11), none⟩,
    ⟨(some 36), .move (.tmp 10), none⟩,
    ⟨(some 37), .call ⟨.builtin .len, #[(.tmp 36)], #[34]⟩, none⟩,
    ⟨(some 38), .binOp .lss 3 (.tmp 35) (.tmp 37) 3, none⟩] [0, 8, 10, 11, 38])
  (.cond (.tmp 38) .skip
  (.exit 0)))
  (.seq (.block 1 (.seq (.reg [⟨(some 41), .move (.tmp 0), none⟩,
    ⟨(some 42), .move (.tmp 10), none⟩,
    ⟨(some 43), .move (.tmp 11), none⟩,
    ⟨(some 44), .indexAddr 34 (.tmp 42) (.tmp 43), none⟩,
    ⟨(some 45), .load 3 (.tmp 44), none⟩,
    ⟨(some 46), .indexAddr 25 (.tmp 41) (.tmp 45), none⟩,
    ⟨(some 47), .fieldAddr 63 (.tmp 46) 3, none⟩,
    ⟨(some 48), .load 34 (.tmp 47), none⟩,
    ⟨(some 12), .assign (.tmp 48), none⟩] [0, 8, 10, 11, 12])
  (.seq (.reg [⟨(some 13), .assign (.const (.int .i64 0)), none⟩] [0, 8, 10, 11, 12, 13])
  (.block 2 (.loop spec_TraitsSeen_l0)))))
  (.reg [⟨(some 39), .move (.tmp 11), none⟩,
    ⟨(some 40), .binOp .add 3 (.tmp 39) (.const (.int .i64 1)) 3, none⟩,
    ⟨(some 11), .assign (.tmp 40), none⟩] [0, 8, 10, 11])))
/-- loop.example/g01062/spec.TraitsSeen: number 42, params [0, 1, 2] -/
def spec_TraitsSeen_c : ACode := (.seq (.reg [⟨(some 6), .assign (.const (.slice none 0 0)), none⟩,
    ⟨(some 7), .assign (.const (.bool false)), none⟩] [0, 1, 2])
  (.seq (.reg [⟨(some 14), .buildSlice 34 0 #[], none⟩,
    ⟨(some 8), .assign (.tmp 14), none⟩] [0, 1, 2, 8])
  (.seq (.reg [⟨(some 15), .move (.tmp 0), none⟩,
    ⟨(some 16), .move (.tmp 2), none⟩,
    ⟨(some 17), .call ⟨.value (.func 59), #[(.tmp 15), (.tmp 16)], #[25, 3]⟩, none⟩,
    ⟨(some 9), .assign (.tmp 17), none⟩] [0, 1, 8, 9])
  (.seq (.seq (.reg [⟨(some 18), .move (.tmp 0), none⟩,
    ⟨(some 19), .call ⟨.value (.func 53), #[(.tmp 18)], #[25]⟩, none⟩,
    ⟨(some 20), .unOp .not 4 (.tmp 19), none⟩,
    ⟨(some 21), .move (.tmp 20), none⟩,
    ⟨(some 22), .move (.tmp 1), (some (some 21, false))⟩,
    ⟨(some 23), .call ⟨.value (.func 69), #[(.tmp 22)], #[3]⟩, (some (some 21, false))⟩,
    ⟨(some 24), .unOp .not 4 (.tmp 23), (some (some 21, false))⟩,
    ⟨(some 25), .pick (.tmp 21) (.const (.bool true)) (.tmp 24), none⟩,
    ⟨(some 26), .move (.tmp 25), none⟩,
    ⟨(some 27), .move (.tmp 9), (some (some 26, false))⟩,
    ⟨(some 28), .binOp .lss 3 (.tmp 27) (.const (.int .i64 0)) 3, (some (some 26, false))⟩,
    ⟨(some 29), .pick (.tmp 26) (.const (.bool true)) (.tmp 28), none⟩] [0, 1, 8, 9, 29])
  (.cond (.tmp 29) (.seq (.reg [⟨(some 30), .move (.tmp 8), none⟩,
    ⟨(some 6), .assign (.tmp 30), none⟩,
    ⟨(some 7), .assign (.const (.bool false)), none⟩] [6, 7])
  .ret)
  .skip))
  (.seq (.reg [⟨(some 31), .move (.tmp 0), none⟩,
    ⟨(some 32), .move (.tmp 1), none⟩,
    ⟨(some 33), .move (.tmp 9), none⟩,
    ⟨(some 34), .call ⟨.value (.func 66), #[(.tmp 31), (.tmp 32), (.tmp 33)], #[25, 3, 3]⟩, none⟩,
    ⟨(some 10), .assign (.tmp 34), none⟩] [0, 8, 10])
  (.seq (.seq (.reg [⟨(some 11), .assign (.const (.int .i64 0)), none⟩] [0, 8, 10, 11])
  (.block 0 (.loop spec_TraitsSeen_l1)))
  (.seq (.reg [⟨(some 61), .move (.tmp 8), none⟩,
    ⟨(some 6), .assign (.tmp 61), none⟩,
    ⟨(some 7), .assign (.const (.bool true)), none⟩] [6, 7])
  .ret)))))))
theorem spec_TraitsSeen_k : fnOk Try.prog (fun _ => false) 42 = some (spec_TraitsSeen_c.strip, 62, [.tmp 6, .tmp 7]) := by kernel_rfl
/-- head: [0, 8, 28, 29, 30] -/
def impl_TraitsSeen_l0 : ACode := (.seq (.reg [⟨(some 31), .binOp .lss 3 (.tmp 30) (.tmp 29) 3, none⟩] [0, 8, 28, 29, 30, 31])
  (.seq (.cond (.tmp 31) .skip
  (.exit 0))
  (.seq (.block 1 (.seq (.reg [⟨(some 32), .indexAddr 34 (.tmp 28) (.tmp 30), none⟩,
    ⟨(some 33), .load 3 (.tmp 32), none⟩,
    ⟨(some 10), .assign (.tmp 33), none⟩] [0, 8, 10, 28, 29, 30])
  (.reg [⟨(some 34), .move (.tmp 8), none⟩,
    ⟨(some 35), .move (.tmp 0), none⟩,
    ⟨(some 36), .move (.tmp 10), none⟩,
    ⟨(some 37), .indexAddr 25 (.tmp 35) (.tmp 36), none⟩,
    ⟨(some 38), .fieldAddr 63 (.tmp 37) 3, none⟩,
    ⟨(some 39), .load 34 (.tmp 38), none⟩,
    ⟨(some 40), .call ⟨.builtin .append, #[(.tmp 34), (.tmp 39)], #[34, 34]⟩, none⟩,
    ⟨(some 8), .assign (.tmp 40), none⟩] [0, 8, 28, 29, 30])))
  (.reg [⟨(some 41), .binOp .add 3 (.tmp 30) (.const (.int .i64 1)) 3, none⟩,
    ⟨(some 30), .move (.tmp 41), none⟩] [0, 8, 28, 29, 30]))))
/-- loop.example/g01062/impl.TraitsSeen: number 43, params [0, 1, 2] -/
def impl_TraitsSeen_c : ACode := (.seq (.reg [⟨(some 6), .assign (.const (.slice none 0 0)), none⟩,
    ⟨(some 7), .assign (.const (.bool false)), none⟩] [0, 1, 2])
  (.seq (.seq (.reg [⟨(some 11), .move (.tmp 0), none⟩,
    ⟨(some 12), .call ⟨.value (.func 55), #[(.tmp 11)], #[25]⟩, none⟩,
    ⟨(some 13), .unOp .not 4 (.tmp 12), none⟩,
    ⟨(some 14), .move (.tmp 13), none⟩,
    ⟨(some 15), .move (.tmp 1), (some (some 14, false))⟩,
    ⟨(some 16), .call ⟨.value (.func 70), #[(.tmp 15), (.const (.int .i64 (-30))), (.const (.int .i64 16))], #[3, 3, 3]⟩, (some (some 14, false))⟩,
    ⟨(some 17), .unOp .not 4 (.tmp 16), (some (some 14, false))⟩,
    ⟨(some 18), .pick (.tmp 14) (.const (.bool true)) (.tmp 17), none⟩,
    ⟨(some 19), .move (.tmp 18), none⟩,
    ⟨(some 20), .move (.tmp 0), (some (some 19, false))⟩,
    ⟨(some 21), .move (.tmp 2), (some (some 19, false))⟩,
    ⟨(some 22), .call ⟨.value (.func 60), #[(.tmp 20), (.tmp 21)], #[25, 3]⟩, (some (some 19, false))⟩,
    ⟨(some 23), .binOp .lss 3 (.tmp 22) (.const (.int .i64 0)) 3, (some (some 19, false))⟩,
    ⟨(some 24), .pick (.tmp 19) (.const (.bool true)) (.tmp 23), none⟩] [0, 1, 2, 24])
  (.cond (.tmp 24) (.seq (.reg [⟨(some 6), .assign (.const (.slice none 0 0)), none⟩,
    ⟨(some 7), .assign (.const (.bool false)), none⟩] [6, 7])
  .ret)
  .skip))
  (.seq (.reg [⟨(some 8), .assign (.const (.slice none 0 0)), none⟩] [0, 1, 2, 8])
  (.seq (.seq (.reg [⟨(some 25), .move (.tmp 0), none⟩,
    ⟨(some 26), .move (.tmp 1), none⟩,
    ⟨(some 27), .move (.tmp 2), none⟩,
    ⟨(some 28), .call ⟨.value (.func 68), #[(.tmp 25), (.tmp 26), (.tmp 27)], #[25, 3, 3]⟩, none⟩,
    ⟨(some 29), .call ⟨.builtin .len, #[(.tmp 28)], #[34]⟩, none⟩,
    ⟨(some 30), .move (.const (.int .i64 0)), none⟩] [0, 8, 28, 29, 30])
  (.block 0 (.loop impl_TraitsSeen_l0)))
  (.seq (.reg [⟨(some 42), .move (.tmp 8), none⟩,
    ⟨(some 43), .call ⟨.value (.func 75), #[(.tmp 42)], #[34]⟩, none⟩] [8])
  (.seq (.reg [⟨(some 44), .move (.tmp 8), none⟩,
    ⟨(some 45), .call ⟨.value (.func 76), #[(.tmp 44)], #[34]⟩, none⟩,
    ⟨(some 6), .assign (.tmp 45), none⟩,
    ⟨(some 7), .assign (.const (.bool true)), none⟩] [6, 7])
  .ret))))))
theorem impl_TraitsSeen_k : fnOk Try.prog (fun _ => false) 43 = some (impl_TraitsSeen_c.strip, 46, [.tmp 6, .tmp 7]) := by kernel_rfl
/-- head: [0, 1, 6, 7, 8, 9] -/
def spec_DoubtfulPairs_l0 : ACode := (.seq (.seq (.reg [⟨(some 32), .move (.tmp 9), none⟩,
    ⟨(some 33), .move (.tmp 0), none⟩,
    ⟨(some 34), .call ⟨.builtin .len, #[(.tmp 33)], #[25]⟩, none⟩,
    ⟨(some 35), .binOp .lss 3 (.tmp 32) (.tmp 34) 3, none⟩] [0, 1, 6, 7, 8, 9, 35])
  (.cond (.tmp 35) .skip
  (.exit 2)))
  (.seq (.block 3 (.seq (.regQ [⟨(some 38), .move (.tmp 8), none⟩,
    ⟨(some 39), .move (.tmp 9), none⟩,
    ⟨(some 40), .call ⟨.value (.func 65), #[(.tmp 38), (.tmp 39)], #[34, 3]⟩, none⟩,
    ⟨(some 41), .move (.tmp 40), none⟩,
    ⟨(some 42), .move (.tmp 0), (some (some 41, true))⟩,
    ⟨(some 43), .move (.tmp 7), (some (some 41, true))⟩,
    ⟨(some 44), .indexAddr 25 (.tmp 42) (.tmp 43), (some (some 41, true))⟩,
    ⟨(some 45), .load 63 (.tmp 44), (some (some 41, true))⟩,
    ⟨(some 46), .move (.tmp 0), (some (some 41, true))⟩,
    ⟨(some 47), .move (.tmp 9), (some (some 41, true))⟩,
    ⟨(some 48), .indexAddr 25 (.tmp 46) (.tmp 47), (some (some 41, true))⟩,
    ⟨(some 49), .load 63 (.tmp 48), (some (some 41, true))⟩,
    ⟨(some 50), .call ⟨.value (.func 57), #[(.tmp 45), (.tmp 49)], #[63, 63]⟩, (some (some 41, true))⟩,
    ⟨(some 51), .move (.tmp 1), (some (some 41, true))⟩,
    ⟨(some 52), .binOp .lss 3 (.tmp 50) (.tmp 51) 3, (some (some 41, true))⟩,
    ⟨(some 53), .pick (.tmp 41) (.tmp 52) (.const (.bool false)), none⟩] [0, 1, 6, 7, 8, 9, 53])
  (.cond (.tmp 53) (.regF []
    [54, 55, 56, 57, 58, 59, 60, 61, 62, 63, 64, 65, 66] []
    [⟨(some 54), .move (.tmp 6), none⟩,
    ⟨(some 55), .move (.tmp 0), none⟩,
    ⟨(some 56), .move (.tmp 7), none⟩,
    ⟨(some 57), .indexAddr 25 (.tmp 55) (.tmp 56), none⟩,
    ⟨(some 58), .fieldAddr 63 (.tmp 57) 0, none⟩,
    ⟨(some 59), .load 3 (.tmp 58), none⟩,
    ⟨(some 60), .move (.tmp 0), none⟩,
    ⟨(some 61), .move (.tmp 9), none⟩,
    ⟨(some 62), .indexAddr 25 (.tmp 60) (.tmp 61), none⟩,
    ⟨(some 63), .fieldAddr 63 (.tmp 62) 0, none⟩,
    ⟨(some 64), .load 3 (.tmp 63), none⟩,
    ⟨(some 65), .buildSlice 34 2 #[(0, (.tmp 59)), (1, (.tmp 64))], none⟩,
    ⟨(some 66), .buildSlice 47 1 #[(0, (.tmp 65))], none⟩,
    ⟨(some 67), .call ⟨.builtin .append, #[(.tmp 54), (.tmp 66)], #[47, 47]⟩, none⟩,
    ⟨(some 6), .assign (.tmp 67), none⟩] [0, 1, 6, 7, 8, 9])
  .skip)))
  (.reg [⟨(some 36), .move (.tmp 9), none⟩,
    ⟨(some 37), .binOp .add 3 (.tmp 36) (.const (.int .i64 1)) 3, none⟩,
    ⟨(some 9), .assign (.tmp 37), none⟩] [0, 1, 6, 7, 8, 9])))
/-- head: [0, 1, 6, 7] -/
def spec_DoubtfulPairs_l1 : ACode := (.seq (.seq (.reg [⟨(some 20), .move (.tmp 7), none⟩,
    ⟨(some 21), .move (.tmp 0), none⟩,
    ⟨(some 22), .call ⟨.builtin .len, #[(.tmp 21)], #[25]⟩, none⟩,
    ⟨(some 23), .binOp .lss 3 (.tmp 20) (.tmp 22) 3, none⟩] [0, 1, 6, 7, 23])
  (.cond (.tmp 23) .skip
  (.exit 0)))
  (.seq (.block 1 (.seq (.reg [⟨(some 26), .move (.tmp 0), none⟩,
    ⟨(some 27), .move (.tmp 1), none⟩,
    ⟨(some 28), .move (.tmp 7), none⟩,
    ⟨(some 29), .call ⟨.value (.func 66), #[(.tmp 26), (.tmp 27), (.tmp 28)], #[25, 3, 3]⟩, none⟩,
    ⟨(some 8), .assign (.tmp 29), none⟩] [0, 1, 6, 7, 8])
  (.seq (.reg [⟨(some 30), .move (.tmp 7), none⟩,
    ⟨(some 31), .binOp .add 3 (.tmp 30) (.const (.int .i64 1)) 3, none⟩,
    ⟨(some 9), .assign (.tmp 31), none⟩] [0, 1, 6, 7, 8, 9])
  (.block 2 (.loop spec_DoubtfulPairs_l0)))))
  (.reg [⟨(some 24), .move (.tmp 7), none⟩,
    ⟨(some 25), .binOp .add 3 (.tmp 24) (.const (.int .i64 1)) 3, none⟩,
    ⟨(some 7), .assign (.tmp 25), none⟩] [0, 1, 6, 7])))
/-- loop.example/g01062/spec.DoubtfulPairs: number 44, params [0, 1] -/
def spec_DoubtfulPairs_c : ACode := (.seq (.reg [⟨(some 4), .assign (.const (.slice none 0 0)), none⟩,
    ⟨(some 5), .assign (.const (.bool false)), none⟩] [0, 1])
  (.seq (.reg [⟨(some 10), .buildSlice 47 0 #[], none⟩,
    ⟨(some 6), .assign (.tmp 10), none⟩] [0, 1, 6])
  (.seq (.seq (.reg [⟨(some 11), .move (.tmp 0), none⟩,
    ⟨(some 12), .call ⟨.value (.func 53), #[(.tmp 11)], #[25]⟩, none⟩,
    ⟨(some 13), .unOp .not 4 (.tmp 12), none⟩,
    ⟨(some 14), .move (.tmp 13), none⟩,
    ⟨(some 15), .move (.tmp 1), (some (some 14, false))⟩,
    ⟨(some 16), .call ⟨.value (.func 69), #[(.tmp 15)], #[3]⟩, (some (some 14, false))⟩,
    ⟨(some 17), .unOp .not 4 (.tmp 16), (some (some 14, false))⟩,
    ⟨(some 18), .pick (.tmp 14) (.const (.bool true)) (.tmp 17), none⟩] [0, 1, 6, 18])
  (.cond (.tmp 18) (.seq (.reg [⟨(some 19), .move (.tmp 6), none⟩,
    ⟨(some 4), .assign (.tmp 19), none⟩,
    ⟨(some 5), .assign (.const (.bool false)), none⟩] [4, 5])
  .ret)
  .skip))
  (.seq (.seq (.reg [⟨(some 7), .assign (.const (.int .i64 0)), none⟩] [0, 1, 6, 7])
  (.block 0 (.loop spec_DoubtfulPairs_l1)))
  (.seq (.reg [⟨(some 68), .move (.tmp 6), none⟩,
    ⟨(some 4), .assign (.tmp 68), none⟩,
    ⟨(some 5), .assign (.const (.bool true)), none⟩] [4, 5])
  .ret)))))
theorem spec_DoubtfulPairs_k : fnOk Try.prog (fun _ => false) 44 = some (spec_DoubtfulPairs_c.strip, 69, [.tmp 4, .tmp 5]) := by kernel_rfl
/-- head: [0, 1, 6, 8, 10, 23, 24, 25, 29, 30, 31, 39, 40, 41] -/
def impl_DoubtfulPairs_l0 : ACode := (.seq (.reg [⟨(some 42), .binOp .lss 3 (.tmp 41) (.tmp 40) 3, none⟩] [0, 1, 6, 8, 10, 23, 24, 25, 29, 30, 31, 39, 40, 41, 42])
  (.seq (.cond (.tmp 42) .skip
  (.exit 4))
  (.seq (.block 5 (.seq (.reg [⟨(some 43), .indexAddr 34 (.tmp 39) (.tmp 41), none⟩,
    ⟨(some 44), .load 3 (.tmp 43), none⟩,
    ⟨(some 12), .assign (.tmp 44), none⟩] [0, 1, 6, 8, 10, 12, 23, 24, 25, 29, 30, 31, 39, 40, 41])
  (.seq (.regQ [⟨(some 45), .move (.tmp 0), none⟩,
    ⟨(some 46), .move (.tmp 10), none⟩,
    ⟨(some 47), .indexAddr 25 (.tmp 45) (.tmp 46), none⟩,
    ⟨(some 48), .load 63 (.tmp 47), none⟩,
    ⟨(some 49), .move (.tmp 0), none⟩,
    ⟨(some 50), .move (.tmp 12), none⟩,
    ⟨(some 51), .indexAddr 25 (.tmp 49) (.tmp 50), none⟩,
    ⟨(some 52), .load 63 (.tmp 51), none⟩,
    ⟨(some 53), .call ⟨.value (.func 58), #[(.tmp 48), (.tmp 52)], #[63, 63]⟩, none⟩,
    ⟨(some 54), .move (.tmp 1), none⟩,
    ⟨(some 55), .binOp .lss 3 (.tmp 53) (.tmp 54) 3, none⟩] [0, 1, 6, 8, 10, 12, 23, 24, 25, 29, 30, 31, 39, 40, 41, 55])
  (.cond (.tmp 55) (.regF []
    [56, 57, 58, 59, 60, 61, 62, 63, 64, 65, 66, 67, 68] []
    [⟨(some 56), .move (.tmp 6), none⟩,
    ⟨(some 57), .move (.tmp 0), none⟩,
    ⟨(some 58), .move (.tmp 10), none⟩,
    ⟨(some 59), .indexAddr 25 (.tmp 57) (.tmp 58), none⟩,
    ⟨(some 60), .fieldAddr 63 (.tmp 59) 0, none⟩,
    ⟨(some 61), .load 3 (.tmp 60), none⟩,
    ⟨(some 62), .move (.tmp 0), none⟩,
    ⟨(some 63), .move (.tmp 12), none⟩,
    ⟨(some 64), .indexAddr 25 (.tmp 62) (.tmp 63), none⟩,
    ⟨(some 65), .fieldAddr 63 (.tmp 64) 0, none⟩,
    ⟨(some 66), .load 3 (.tmp 65), none⟩,
    ⟨(some 67), .buildSlice 34 2 #[(0, (.tmp 61)), (1, (.tmp 66))], none⟩,
    ⟨(some 68), .buildSlice 47 1 #[(0, (.tmp 67))], none⟩,
    ⟨(some 69), .call ⟨.builtin .append, #[(.tmp 56), (.tmp 68)], #[47, 47]⟩, none⟩,
    ⟨(some 6), .assign (.tmp 69), none⟩] [0, 1, 6, 8, 10, 23, 24, 25, 29, 30, 31, 39, 40, 41])
  .skip))))
  (.reg [⟨(some 70), .binOp .add 3 (.tmp 41) (.const (.int .i64 1)) 3, none⟩,
    ⟨(some 41), .move (.tmp 70), none⟩] [0, 1, 6, 8, 10, 23, 24, 25, 29, 30, 31, 39, 40, 41]))))
/-- head: [0, 1, 6, 8, 23, 24, 25, 29, 30, 31] -/
def impl_DoubtfulPairs_l1 : ACode := (.seq (.reg [⟨(some 32), .binOp .lss 3 (.tmp 31) (.tmp 30) 3, none⟩] [0, 1, 6, 8, 23, 24, 25, 29, 30, 31, 32])
  (.seq (.cond (.tmp 32) .skip
  (.exit 2))
  (.seq (.block 3 (.seq (.reg [⟨(some 33), .move (.tmp 31), none⟩,
    ⟨(some 34), .indexAddr 34 (.tmp 29) (.tmp 31), none⟩,
    ⟨(some 35), .load 3 (.tmp 34), none⟩,
    ⟨(some 9), .assign (.tmp 33), none⟩,
    ⟨(some 10), .assign (.tmp 35), none⟩] [0, 1, 6, 8, 9, 10, 23, 24, 25, 29, 30, 31])
  (.seq (.reg [⟨(some 36), .move (.tmp 8), none⟩,
    ⟨(some 37), .move (.tmp 9), none⟩,
    ⟨(some 38), .binOp .add 3 (.tmp 37) (.const (.int .i64 1)) 3, none⟩,
    ⟨(some 39), .slice 34 (.tmp 36) (some (.tmp 38)) none none, none⟩,
    ⟨(some 40), .call ⟨.builtin .len, #[(.tmp 39)], #[34]⟩, none⟩,
    ⟨(some 41), .move (.const (.int .i64 0)), none⟩] [0, 1, 6, 8, 10, 23, 24, 25, 29, 30, 31, 39, 40, 41])
  (.block 4 (.loop impl_DoubtfulPairs_l0)))))
  (.reg [⟨(some 71), .binOp .add 3 (.tmp 31) (.const (.int .i64 1)) 3, none⟩,
    ⟨(some 31), .move (.tmp 71), none⟩] [0, 1, 6, 8, 23, 24, 25, 29, 30, 31]))))
/-- head: [0, 1, 6, 23, 24, 25] -/
def impl_DoubtfulPairs_l2 : ACode := (.seq (.reg [⟨(some 26), .binOp .lss 3 (.tmp 25) (.tmp 24) 3, none⟩] [0, 1, 6, 23, 24, 25, 26])
  (.seq (.cond (.tmp 26) .skip
  (.exit 0))
  (.seq (.block 1 (.seq (.reg [⟨(some 27), .indexAddr 47 (.tmp 23) (.tmp 25), none⟩,
    ⟨(some 28), .load 34 (.tmp 27), none⟩,
    ⟨(some 8), .assign (.tmp 28), none⟩] [0, 1, 6, 8, 23, 24, 25])
  (.seq (.reg [⟨(some 29), .move (.tmp 8), none⟩,
    ⟨(some 30), .call ⟨.builtin .len, #[(.tmp 29)], #[34]⟩, none⟩,
    ⟨(some 31), .move (.const (.int .i64 0)), none⟩] [0, 1, 6, 8, 23, 24, 25, 29, 30, 31])
  (.block 2 (.loop impl_DoubtfulPairs_l1)))))
  (.reg [⟨(some 72), .binOp .add 3 (.tmp 25) (.const (.int .i64 1)) 3, none⟩,
    ⟨(some 25), .move (.tmp 72), none⟩] [0, 1, 6, 23, 24, 25]))))
/-- loop.example/g01062/impl.DoubtfulPairs: number 45, params [0, 1] -/
def impl_DoubtfulPairs_c : ACode := (.seq (.reg [⟨(some 4), .assign (.const (.slice none 0 0)), none⟩,
    ⟨(some 5), .assign (.const (.bool false)), none⟩] [0, 1])
  (.seq (.seq (.reg [⟨(some 13), .move (.tmp 0), none⟩,
    ⟨(some 14), .call ⟨.value (.func 55), #[(.tmp 13)], #[25]⟩, none⟩,
    ⟨(some 15), .unOp .not 4 (.tmp 14), none⟩,
    ⟨(some 16), .move (.tmp 15), none⟩,
    ⟨(some 17), .move (.tmp 1), (some (some 16, false))⟩,
    ⟨(some 18), .call ⟨.value (.func 70), #[(.tmp 17), (.const (.int .i64 (-30))), (.const (.int .i64 16))], #[3, 3, 3]⟩, (some (some 16, false))⟩,
    ⟨(some 19), .unOp .not 4 (.tmp 18), (some (some 16, false))⟩,
    ⟨(some 20), .pick (.tmp 16) (.const (.bool true)) (.tmp 19), none⟩] [0, 1, 20])
  (.cond (.tmp 20) (.seq (.reg [⟨(some 4), .assign (.const (.slice none 0 0)), none⟩,
    ⟨(some 5), .assign (.const (.bool false)), none⟩] [4, 5])
  .ret)
  .skip))
  (.seq (.reg [⟨(some 6), .assign (.const (.slice none 0 0)), none⟩] [0, 1, 6])
  (.seq (.seq (.reg [⟨(some 21), .move (.tmp 0), none⟩,
    ⟨(some 22), .move (.tmp 1), none⟩,
    ⟨(some 23), .call ⟨.value (.func 71), #[(.tmp 21), (.tmp 22)], #[25, 3]⟩, none⟩,
    ⟨(some 24), .call ⟨.builtin .len, #[(.tmp 23)], #[47]⟩, none⟩,
    ⟨(some 25), .move (.const (.int .i64 0)), none⟩] [0, 1, 6, 23, 24, 25])
  (.block 0 (.loop impl_DoubtfulPairs_l2)))
  (.seq (.reg [⟨(some 73), .move (.tmp 6), none⟩,
    ⟨(some 74), .call ⟨.value (.func 77), #[(.tmp 73), (.func 78)], #[47, 77]⟩, none⟩] [6])
  (.seq (.reg [⟨(some 75), .move (.tmp 6), none⟩,
    ⟨(some 4), .assign (.tmp 75), none⟩,
    ⟨(some 5), .assign (.const (.bool true)), none⟩] [4, 5])
  .ret))))))
theorem impl_DoubtfulPairs_k : fnOk Try.prog (fun _ => false) 45 = some (impl_DoubtfulPairs_c.strip, 76, [.tmp 4, .tmp 5]) := by kernel_rfl
/-- loop.example/g01062/laws.rBig: number 46, params [0] -/
def laws_rBig_c : ACode := (.seq (.reg [⟨(some 2), .assign (.const (.bool false)), none⟩] [0])
  (.seq (.reg [⟨(some 3), .move (.tmp 0), none⟩,
    ⟨(some 4), .call ⟨.builtin .len, #[(.tmp 3)], #[53]⟩, none⟩,
    ⟨(some 5), .binOp .gtr 3 (.tmp 4) (.const (.int .i64 65536)) 3, none⟩,
    ⟨(some 2), .assign (.tmp 5), none⟩] [2])
  .ret))
theorem laws_rBig_k : fnOk Try.prog (fun _ => false) 46 = some (laws_rBig_c.strip, 6, [.tmp 2]) := by kernel_rfl
/-- head: [0, 1, 5] -/
def laws_rHas_l0 : ACode := (.seq (.seq (.reg [⟨(some 6), .move (.tmp 5), none⟩,
    ⟨(some 7), .move (.tmp 0), none⟩,
    ⟨(some 8), .call ⟨.builtin .len, #[(.tmp 7)], #[34]⟩, none⟩,
    ⟨(some 9), .binOp .lss 3 (.tmp 6) (.tmp 8) 3, none⟩] [0, 1, 5, 9])
  (.cond (.tmp 9) .skip
  (.exit 0)))
  (.seq (.block 1 (.seq (.reg [⟨(some 12), .move (.tmp 0), none⟩,
    ⟨(some 13), .move (.tmp 5), none⟩,
    ⟨(some 14), .indexAddr 34 (.tmp 12) (.tmp 13), none⟩,
    ⟨(some 15), .load 3 (.tmp 14), none⟩,
    ⟨(some 16), .move (.tmp 1), none⟩,
    ⟨(some 17), .binOp .eql 3 (.tmp 15) (.tmp 16) 3, none⟩] [0, 1, 5, 17])
  (.cond (.tmp 17) (.seq (.reg [⟨(some 4), .assign (.const (.bool true)), none⟩] [4])
  .ret)
  .skip)))
  (.reg [⟨(some 10), .move (.tmp 5), none⟩,
    ⟨(some 11), .binOp .add 3 (.tmp 10) (.const (.int .i64 1)) 3, none⟩,
    ⟨(some 5), .assign (.tmp 11), none⟩] [0, 1, 5])))
/-- loop.example/g01062/laws.rHas: number 48, params [0, 1] -/
def laws_rHas_c : ACode := (.seq (.reg [⟨(some 4), .assign (.const (.bool false)), none⟩] [0, 1])
  (.seq (.seq (.reg [⟨(some 5), .assign (.const (.int .i64 0)), none⟩] [0, 1, 5])
  (.block 0 (.loop laws_rHas_l0)))
  (.seq (.reg [⟨(some 4), .assign (.const (.bool false)), none⟩] [4])
  .ret)))
theorem laws_rHas_k : fnOk Try.prog (fun _ => false) 48 = some (laws_rHas_c.strip, 18, [.tmp 4]) := by kernel_rfl
/-- head: [0, 1, 5] -/
def laws_rTable_l0 : ACode := (.seq (.seq (.reg [⟨(some 11), .move (.tmp 5), none⟩,
    ⟨(some 12), .move (.tmp 0), none⟩,
    ⟨(some 13), .call ⟨.builtin .len, #[(.tmp 12)], #[47]⟩, none⟩,
    ⟨(some 14), .binOp .lss 3 (.tmp 11) (.tmp 13) 3, none⟩] [0, 1, 5, 14])
  (.cond (.tmp 14) .skip
  (.exit 0)))
  (.seq (.block 1 (.seq (.regQ [⟨(some 17), .move (.tmp 0), none⟩,
    ⟨(some 18), .move (.tmp 5), none⟩,
    ⟨(some 19), .indexAddr 47 (.tmp 17) (.tmp 18), none⟩,
    ⟨(some 20), .load 34 (.tmp 19), none⟩,
    ⟨(some 21), .move (.tmp 1), none⟩,
    ⟨(some 22), .move (.tmp 5), none⟩,
    ⟨(some 23), .indexAddr 47 (.tmp 21) (.tmp 22), none⟩,
    ⟨(some 24), .load 34 (.tmp 23), none⟩,
    ⟨(some 25), .call ⟨.value (.func 51), #[(.tmp 20), (.tmp 24)], #[34, 34]⟩, none⟩,
    ⟨(some 26), .unOp .not 4 (.tmp 25), none⟩] [0, 1, 5, 26])
  (.cond (.tmp 26) (.seq (.reg [⟨(some 4), .assign (.const (.bool false)), none⟩] [4])
  .ret)
  .skip)))
  (.reg [⟨(some 15), .move (.tmp 5), none⟩,
    ⟨(some 16), .binOp .add 3 (.tmp 15) (.const (.int .i64 1)) 3, none⟩,
    ⟨(some 5), .assign (.tmp 16), none⟩] [0, 1, 5])))
/-- loop.example/g01062/laws.rTable: number 50, params [0, 1] -/
def laws_rTable_c : ACode := (.seq (.reg [⟨(some 4), .assign (.const (.bool false)), none⟩] [0, 1])
  (.seq (.seq (.reg [⟨(some 6), .move (.tmp 0), none⟩,
    ⟨(some 7), .call ⟨.builtin .len, #[(.tmp 6)], #[47]⟩, none⟩,
    ⟨(some 8), .move (.tmp 1), none⟩,
    ⟨(some 9), .call ⟨.builtin .len, #[(.tmp 8)], #[47]⟩, none⟩,
    ⟨(some 10), .binOp .neq 3 (.tmp 7) (.tmp 9) 3, none⟩] [0, 1, 10])
  (.cond (.tmp 10) (.seq (.reg [⟨(some 4), .assign (.const (.bool false)), none⟩] [4])
  .ret)
  .skip))
  (.seq (.seq (.reg [⟨(some 5), .assign (.const (.int .i64 0)), none⟩] [0, 1, 5])
  (.block 0 (.loop laws_rTable_l0)))
  (.seq (.reg [⟨(some 4), .assign (.const (.bool true)), none⟩] [4])
  .ret))))
theorem laws_rTable_k : fnOk Try.prog (fun _ => false) 50 = some (laws_rTable_c.strip, 27, [.tmp 4]) := by kernel_rfl
/-- head: [0, 1, 5] -/
def laws_rInts_l0 : ACode := (.seq (.seq (.reg [⟨(some 11), .move (.tmp 5), none⟩,
    ⟨(some 12), .move (.tmp 0), none⟩,
    ⟨(some 13), .call ⟨.builtin .len, #[(.tmp 12)], #[34]⟩, none⟩,
    ⟨(some 14), .binOp .lss 3 (.tmp 11) (.tmp 13) 3, none⟩] [0, 1, 5, 14])
  (.cond (.tmp 14) .skip
  (.exit 0)))
  (.seq (.block 1 (.seq (.regQ [⟨(some 17), .move (.tmp 0), none⟩,
    ⟨(some 18), .move (.tmp 5), none⟩,
    ⟨(some 19), .indexAddr 34 (.tmp 17) (.tmp 18), none⟩,
    ⟨(some 20), .load 3 (.tmp 19), none⟩,
    ⟨(some 21), .move (.tmp 1), none⟩,
    ⟨(some 22), .move (.tmp 5), none⟩,
    ⟨(some 23), .indexAddr 34 (.tmp 21) (.tmp 22), none⟩,
    ⟨(some 24), .load 3 (.tmp 23), none⟩,
    ⟨(some 25), .binOp .neq 3 (.tmp 20) (.tmp 24) 3, none⟩] [0, 1, 5, 25])
  (.cond (.tmp 25) (.seq (.reg [⟨(some 4), .assign (.const (.bool false)), none⟩] [4])
  .ret)
  .skip)))
  (.reg [⟨(some 15), .move (.tmp 5), none⟩,
    ⟨(some 16), .binOp .add 3 (.tmp 15) (.const (.int .i64 1)) 3, none⟩,
    ⟨(some 5), .assign (.tmp 16), none⟩] [0, 1, 5])))
/-- loop.example/g01062/laws.rInts: number 51, params [0, 1] -/
def laws_rInts_c : ACode := (.seq (.reg [⟨(some 4), .assign (.const (.bool false)), none⟩] [0, 1])
  (.seq (.seq (.reg [⟨(some 6), .move (.tmp 0), none⟩,
    ⟨(some 7), .call ⟨.builtin .len, #[(.tmp 6)], #[34]⟩, none⟩,
    ⟨(some 8), .move (.tmp 1), none⟩,
    ⟨(some 9), .call ⟨.builtin .len, #[(.tmp 8)], #[34]⟩, none⟩,
    ⟨(some 10), .binOp .neq 3 (.tmp 7) (.tmp 9) 3, none⟩] [0, 1, 10])
  (.cond (.tmp 10) (.seq (.reg [⟨(some 4), .assign (.const (.bool false)), none⟩] [4])
  .ret)
  .skip))
  (.seq (.seq (.reg [⟨(some 5), .assign (.const (.int .i64 0)), none⟩] [0, 1, 5])
  (.block 0 (.loop laws_rInts_l0)))
  (.seq (.reg [⟨(some 4), .assign (.const (.bool true)), none⟩] [4])
  .ret))))
theorem laws_rInts_k : fnOk Try.prog (fun _ => false) 51 = some (laws_rInts_c.strip, 26, [.tmp 4]) := by kernel_rfl
/-- loop.example/g01062/laws.szSighting: number 52, params [0, 1] -/
def laws_szSighting_c : ACode := (.seq (.reg [⟨(some 2), .box 62 (.tmp 0), none⟩,
    ⟨(some 4), .assign (.const (.int .i64 0)), none⟩] [1, 2])
  (.seq (.reg [⟨(some 5), .move (.tmp 1), none⟩,
    ⟨(some 6), .fieldAddr 62 (.tmp 2) 2, none⟩,
    ⟨(some 7), .load 9 (.tmp 6), none⟩,
    ⟨(some 8), .call ⟨.builtin .len, #[(.tmp 7)], #[9]⟩, none⟩,
    ⟨(some 9), .binOp .sub 3 (.tmp 5) (.tmp 8) 3, none⟩,
    ⟨(some 1), .assign (.tmp 9), none⟩] [1, 2])
  (.seq (.seq (.reg [⟨(some 10), .move (.tmp 1), none⟩,
    ⟨(some 11), .binOp .lss 3 (.tmp 10) (.const (.int .i64 0)) 3, none⟩] [1, 2, 11])
  (.cond (.tmp 11) (.seq (.reg [⟨(some 4), .assign (.const (.int .i64 (-1))), none⟩] [4])
  .ret)
  .skip))
  (.seq (.reg [⟨(some 12), .fieldAddr 62 (.tmp 2) 3, none⟩,
    ⟨(some 13), .load 34 (.tmp 12), none⟩,
    ⟨(some 14), .move (.tmp 1), none⟩,
    ⟨(some 15), .call ⟨.value (.func 82), #[(.tmp 13), (.tmp 14)], #[34, 3]⟩, none⟩,
    ⟨(some 1), .assign (.tmp 15), none⟩] [1])
  (.seq (.seq (.reg [⟨(some 16), .move (.tmp 1), none⟩,
    ⟨(some 17), .binOp .lss 3 (.tmp 16) (.const (.int .i64 0)) 3, none⟩] [1, 17])
  (.cond (.tmp 17) (.seq (.reg [⟨(some 4), .assign (.const (.int .i64 (-1))), none⟩] [4])
  .ret)
  .skip))
  (.seq (.reg [⟨(some 18), .move (.tmp 1), none⟩,
    ⟨(some 4), .assign (.tmp 18), none⟩] [4])
  .ret))))))
theorem laws_szSighting_k : fnOk Try.prog (fun _ => false) 52 = some (laws_szSighting_c.strip, 19, [.tmp 4]) := by kernel_rfl
/-- head: [0, 3] -/
def spec_l13Good_l0 : ACode := (.seq (.seq (.reg [⟨(some 4), .move (.tmp 3), none⟩,
    ⟨(some 5), .move (.tmp 0), none⟩,
    ⟨(some 6), .call ⟨.builtin .len, #[(.tmp 5)], #[25]⟩, none⟩,
    ⟨(some 7), .binOp .lss 3 (.tmp 4) (.tmp 6) 3, none⟩] [0, 3, 7])
  (.cond (.tmp 7) .skip
  (.exit 0)))
  (.seq (.block 1 (.seq (.regQ [⟨(some 10), .move (.tmp 0), none⟩,
    ⟨(some 11), .move (.tmp 3), none⟩,
    ⟨(some 12), .indexAddr 25 (.tmp 10) (.tmp 11), none⟩,
    ⟨(some 13), .load 63 (.tmp 12), none⟩,
    ⟨(some 14), .call ⟨.value (.func 83), #[(.tmp 13)], #[63]⟩, none⟩,
    ⟨(some 15), .unOp .not 4 (.tmp 14), none⟩,
    ⟨(some 16), .move (.tmp 15), none⟩,
    ⟨(some 17), .move (.tmp 3), (some (some 16, false))⟩,
    ⟨(some 18), .binOp .gtr 3 (.tmp 17) (.const (.int .i64 0)) 3, (some (some 16, false))⟩,
    ⟨(some 19), .move (.tmp 18), (some (some 16, false))⟩,
    ⟨(some 20), .move (.tmp 0), (some (some 19, true))⟩,
    ⟨(some 21), .move (.tmp 3), (some (some 19, true))⟩,
    ⟨(some 22), .binOp .sub 3 (.tmp 21) (.const (.int .i64 1)) 3, (some (some 19, true))⟩,
    ⟨(some 23), .indexAddr 25 (.tmp 20) (.tmp 22), (some (some 19, true))⟩,
    ⟨(some 24), .fieldAddr 63 (.tmp 23) 0, (some (some 19, true))⟩,
    ⟨(some 25), .load 3 (.tmp 24), (some (some 19, true))⟩,
    ⟨(some 26), .move (.tmp 0), (some (some 19, true))⟩,
    ⟨(some 27), .move (.tmp 3), (some (some 19, true))⟩,
    ⟨(some 28), .indexAddr 25 (.tmp 26) (.tmp 27), (some (some 19, true))⟩,
    ⟨(some 29), .fieldAddr 63 (.tmp 28) 0, (some (some 19, true))⟩,
    ⟨(some 30), .load 3 (.tmp 29), (some (some 19, true))⟩,
    ⟨(some 31), .binOp .geq 3 (.tmp 25) (.tmp 30) 3, (some (some 19, true))⟩,
    ⟨(some 32), .pick (.tmp 19) (.tmp 31) (.const (.bool false)), (some (some 16, false))⟩,
    ⟨(some 33), .pick (.tmp 16) (.const (.bool true)) (.tmp 32), none⟩] [0, 3, 33])
  (.cond (.tmp 33) (.seq (.reg [⟨(some 2), .assign (.const (.bool false)), none⟩] [2])
  .ret)
  .skip)))
  (.reg [⟨(some 8), .move (.tmp 3), none⟩,
    ⟨(some 9), .binOp .add 3 (.tmp 8) (.const (.int .i64 1)) 3, none⟩,
    ⟨(some 3), .assign (.tmp 9), none⟩] [0, 3])))
/-- loop.example/g01062/spec.l13Good: number 53, params [0] -/
def spec_l13Good_c : ACode := (.seq (.reg [⟨(some 2), .assign (.const (.bool false)), none⟩] [0])
  (.seq (.seq (.reg [⟨(some 3), .assign (.const (.int .i64 0)), none⟩] [0, 3])
  (.block 0 (.loop spec_l13Good_l0)))
  (.seq (.reg [⟨(some 34), .move (.tmp 0), none⟩,
    ⟨(some 35), .call ⟨.builtin .len, #[(.tmp 34)], #[25]⟩, none⟩,
    ⟨(some 36), .binOp .leq 3 (.tmp 35) (.const (.int .i64 10)) 3, none⟩,
    ⟨(some 2), .assign (.tmp 36), none⟩] [2])
  .ret)))
theorem spec_l13Good_k : fnOk Try.prog (fun _ => false) 53 = some (spec_l13Good_c.strip, 37, [.tmp 2]) := by kernel_rfl
/-- loop.example/g01062/laws.toSighting: number 54, params [0] -/
def laws_toSighting_c : ACode := (.seq (.reg [⟨(some 1), .box 62 (.tmp 0), none⟩,
    ⟨(some 2), .alloc 63, none⟩] [1, 2])
  (.seq (.reg [⟨(some 3), .alloc 63, none⟩] [1, 2, 3])
  (.seq (.reg [⟨(some 4), .fieldAddr 62 (.tmp 1) 0, none⟩,
    ⟨(some 5), .load 3 (.tmp 4), none⟩,
    ⟨(some 6), .fieldAddr 63 (.tmp 3) 0, none⟩,
    ⟨none, .store 3 (.tmp 6) (.tmp 5), none⟩] [1, 2, 3])
  (.seq (.reg [⟨(some 7), .fieldAddr 62 (.tmp 1) 1, none⟩,
    ⟨(some 8), .load 3 (.tmp 7), none⟩,
    ⟨(some 9), .fieldAddr 63 (.tmp 3) 1, none⟩,
    ⟨none, .store 3 (.tmp 9) (.tmp 8), none⟩] [1, 2, 3])
  (.seq (.reg [⟨(some 10), .fieldAddr 62 (.tmp 1) 2, none⟩,
    ⟨(some 11), .load 9 (.tmp 10), none⟩,
    ⟨(some 12), .fieldAddr 63 (.tmp 3) 2, none⟩,
    ⟨none, .store 9 (.tmp 12) (.tmp 11), none⟩] [1, 2, 3])
  (.seq (.reg [⟨(some 13), .fieldAddr 62 (.tmp 1) 3, none⟩,
    ⟨(some 14), .load 34 (.tmp 13), none⟩,
    ⟨(some 15), .call ⟨.value (.func 24), #[(.tmp 14)], #[34]⟩, none⟩,
    ⟨(some 16), .fieldAddr 63 (.tmp 3) 3, none⟩,
    ⟨none, .store 34 (.tmp 16) (.tmp 15), none⟩] [2, 3])
  (.seq (.reg [⟨(some 17), .load 63 (.tmp 3), none⟩,
    ⟨none, .store 63 (.tmp 2) (.tmp 17), none⟩] [2])
  .ret)))))))
theorem laws_toSighting_k : fnOk Try.prog (fun _ => false) 54 = some (laws_toSighting_c.strip, 18, [.cell 2 63]) := by kernel_rfl
/-- head: [0, 7, 8, 9, 58, 59, 60] -/
def impl_areSightings_l0 : ACode := (.seq (.reg [⟨(some 61), .binOp .lss 3 (.tmp 60) (.tmp 59) 3, none⟩] [0, 7, 8, 9, 58, 59, 60, 61])
  (.seq (.cond (.tmp 61) .skip
  (.exit 2))
  (.seq (.block 3 (.seq (.reg [⟨(some 62), .indexAddr 34 (.tmp 58) (.tmp 60), none⟩,
    ⟨(some 63), .load 3 (.tmp 62), none⟩,
    ⟨(some 6), .assign (.tmp 63), none⟩] [0, 6, 7, 8, 9, 58, 59, 60])
  (.seq (.reg [⟨(some 64), .move (.tmp 6), none⟩,
    ⟨(some 65), .call ⟨.value (.func 70), #[(.tmp 64), (.const (.int .i64 1)), (.const (.int .i64 50))], #[3, 3, 3]⟩, none⟩,
    ⟨(some 66), .unOp .not 4 (.tmp 65), none⟩] [0, 7, 8, 9, 58, 59, 60, 66])
  (.cond (.tmp 66) (.seq (.reg [⟨(some 2), .assign (.const (.bool false)), none⟩] [2])
  .ret)
  .skip))))
  (.reg [⟨(some 67), .binOp .add 3 (.tmp 60) (.const (.int .i64 1)) 3, none⟩,
    ⟨(some 60), .move (.tmp 67), none⟩] [0, 7, 8, 9, 58, 59, 60]))))
/-- head: [0, 7, 8, 9] -/
def impl_areSightings_l1 : ACode := (.seq (.reg [⟨(some 10), .binOp .lss 3 (.tmp 9) (.tmp 8) 3, none⟩] [0, 7, 8, 9, 10])
  (.seq (.cond (.tmp 10) .skip
  (.exit 0))
  (.seq (.block 1 (.seq (.reg [⟨(some 11), .move (.tmp 9), none⟩,
    ⟨(some 12), .indexAddr 25 (.tmp 7) (.tmp 9), none⟩,
    ⟨(some 13), .load 63 (.tmp 12), none⟩,
    ⟨(some 4), .alloc 63, none⟩,
    ⟨(some 3), .assign (.tmp 11), none⟩,
    ⟨none, .store 63 (.tmp 4) (.tmp 13), none⟩] [0, 3, 4, 7, 8, 9])
  (.seq (.seq (.regQ [⟨(some 14), .fieldAddr 63 (.tmp 4) 0, none⟩,
    ⟨(some 15), .load 3 (.tmp 14), none⟩,
    ⟨(some 16), .call ⟨.value (.func 70), #[(.tmp 15), (.const (.int .i64 1)), (.const (.int .i64 999))], #[3, 3, 3]⟩, none⟩,
    ⟨(some 17), .unOp .not 4 (.tmp 16), none⟩,
    ⟨(some 18), .move (.tmp 17), none⟩,
    ⟨(some 19), .fieldAddr 63 (.tmp 4) 1, (some (some 18, false))⟩,
    ⟨(some 20), .load 3 (.tmp 19), (some (some 18, false))⟩,
    ⟨(some 21), .call ⟨.value (.func 70), #[(.tmp 20), (.const (.int .i64 1840)), (.const (.int .i64 2100))], #[3, 3, 3]⟩, (some (some 18, false))⟩,
    ⟨(some 22), .unOp .not 4 (.tmp 21), (some (some 18, false))⟩,
    ⟨(some 23), .pick (.tmp 18) (.const (.bool true)) (.tmp 22), none⟩,
    ⟨(some 24), .move (.tmp 23), none⟩,
    ⟨(some 25), .fieldAddr 63 (.tmp 4) 2, (some (some 24, false))⟩,
    ⟨(some 26), .load 9 (.tmp 25), (some (some 24, false))⟩,
    ⟨(some 27), .call ⟨.value (.func 84), #[(.tmp 26)], #[9]⟩, (some (some 24, false))⟩,
    ⟨(some 28), .unOp .not 4 (.tmp 27), (some (some 24, false))⟩,
    ⟨(some 29), .pick (.tmp 24) (.const (.bool true)) (.tmp 28), none⟩,
    ⟨(some 30), .move (.tmp 29), none⟩,
    ⟨(some 31), .fieldAddr 63 (.tmp 4) 3, (some (some 30, false))⟩,
    ⟨(some 32), .load 34 (.tmp 31), (some (some 30, false))⟩,
    ⟨(some 33), .call ⟨.builtin .len, #[(.tmp 32)], #[34]⟩, (some (some 30, false))⟩,
    ⟨(some 34), .binOp .gtr 3 (.tmp 33) (.const (.int .i64 8)) 3, (some (some 30, false))⟩,
    ⟨(some 35), .pick (.tmp 30) (.const (.bool true)) (.tmp 34), none⟩,
    ⟨(some 36), .move (.tmp 35), none⟩,
    ⟨(some 37), .fieldAddr 63 (.tmp 4) 3, (some (some 36, false))⟩,
    ⟨(some 38), .load 34 (.tmp 37), (some (some 36, false))⟩,
    ⟨(some 39), .call ⟨.value (.func 85), #[(.tmp 38)], #[34]⟩, (some (some 36, false))⟩,
    ⟨(some 40), .unOp .not 4 (.tmp 39), (some (some 36, false))⟩,
    ⟨(some 41), .pick (.tmp 36) (.const (.bool true)) (.tmp 40), none⟩,
    ⟨(some 42), .move (.tmp 41), none⟩,
    ⟨(some 43), .move (.tmp 3), (some (some 42, false))⟩,
    ⟨(some 44), .binOp .gtr 3 (.tmp 43) (.const (.int .i64 0)) 3, (some (some 42, false))⟩,
    ⟨(some 45), .move (.tmp 44), (some (some 42, false))⟩,
    ⟨(some 46), .move (.tmp 0), (some (some 45, true))⟩,
    ⟨(some 47), .move (.tmp 3), (some (some 45, true))⟩,
    ⟨(some 48), .binOp .sub 3 (.tmp 47) (.const (.int .i64 1)) 3, (some (some 45, true))⟩,
    ⟨(some 49), .indexAddr 25 (.tmp 46) (.tmp 48), (some (some 45, true))⟩,
    ⟨(some 50), .fieldAddr 63 (.tmp 49) 0, (some (some 45, true))⟩,
    ⟨(some 51), .load 3 (.tmp 50), (some (some 45, true))⟩,
    ⟨(some 52), .fieldAddr 63 (.tmp 4) 0, (some (some 45, true))⟩,
    ⟨(some 53), .load 3 (.tmp 52), (some (some 45, true))⟩,
    ⟨(some 54), .binOp .geq 3 (.tmp 51) (.tmp 53) 3, (some (some 45, true))⟩,
    ⟨(some 55), .pick (.tmp 45) (.tmp 54) (.const (.bool false)), (some (some 42, false))⟩,
    ⟨(some 56), .pick (.tmp 42) (.const (.bool true)) (.tmp 55), none⟩] [0, 4, 7, 8, 9, 56])
  (.cond (.tmp 56) (.seq (.reg [⟨(some 2), .assign (.const (.bool false)), none⟩] [2])
  .ret)
  .skip))
  (.seq (.reg [⟨(some 57), .fieldAddr 63 (.tmp 4) 3, none⟩,
    ⟨(some 58), .load 34 (.tmp 57), none⟩,
    ⟨(some 59), .call ⟨.builtin .len, #[(.tmp 58)], #[34]⟩, none⟩,
    ⟨(some 60), .move (.const (.int .i64 0)), none⟩] [0, 7, 8, 9, 58, 59, 60])
  (.block 2 (.loop impl_areSightings_l0))))))
  (.reg [⟨(some 68), .binOp .add 3 (.tmp 9) (.const (.int .i64 1)) 3, none⟩,
    ⟨(some 9), .move (.tmp 68), none⟩] [0, 7, 8, 9]))))
/-- loop.example/g01062/impl.areSightings: number 55, params [0] -/
def impl_areSightings_c : ACode := (.seq (.reg [⟨(some 2), .assign (.const (.bool false)), none⟩] [0])
  (.seq (.seq (.reg [⟨(some 7), .move (.tmp 0), none⟩,
    ⟨(some 8), .call ⟨.builtin .len, #[(.tmp 7)], #[25]⟩, none⟩,
    ⟨(some 9), .move (.const (.int .i64 0)), none⟩] [0, 7, 8, 9])
  (.block 0 (.loop impl_areSightings_l1)))
  (.seq (.reg [⟨(some 69), .move (.tmp 0), none⟩,
    ⟨(some 70), .call ⟨.builtin .len, #[(.tmp 69)], #[25]⟩, none⟩,
    ⟨(some 71), .binOp .leq 3 (.tmp 70) (.const (.int .i64 10)) 3, none⟩,
    ⟨(some 2), .assign (.tmp 71), none⟩] [2])
  .ret)))
theorem impl_areSightings_k : fnOk Try.prog (fun _ => false) 55 = some (impl_areSightings_c.strip, 72, [.tmp 2]) := by kernel_rfl
/-- loop.example/g01062/laws.eqSighting: number 56, params [0, 1] -/
def laws_eqSighting_c : ACode := (.seq (.reg [⟨(some 2), .box 63 (.tmp 0), none⟩,
    ⟨(some 3), .box 63 (.tmp 1), none⟩,
    ⟨(some 4), .assign (.const (.bool false)), none⟩] [2, 3])
  (.seq (.seq (.reg [⟨(some 5), .fieldAddr 63 (.tmp 2) 0, none⟩,
    ⟨(some 6), .load 3 (.tmp 5), none⟩,
    ⟨(some 7), .fieldAddr 63 (.tmp 3) 0, none⟩,
    ⟨(some 8), .load 3 (.tmp 7), none⟩,
    ⟨(some 9), .binOp .neq 3 (.tmp 6) (.tmp 8) 3, none⟩] [2, 3, 9])
  (.cond (.tmp 9) (.seq (.reg [⟨(some 4), .assign (.const (.bool false)), none⟩] [4])
  .ret)
  .skip))
  (.seq (.seq (.reg [⟨(some 10), .fieldAddr 63 (.tmp 2) 1, none⟩,
    ⟨(some 11), .load 3 (.tmp 10), none⟩,
    ⟨(some 12), .fieldAddr 63 (.tmp 3) 1, none⟩,
    ⟨(some 13), .load 3 (.tmp 12), none⟩,
    ⟨(some 14), .binOp .neq 3 (.tmp 11) (.tmp 13) 3, none⟩] [2, 3, 14])
  (.cond (.tmp 14) (.seq (.reg [⟨(some 4), .assign (.const (.bool false)), none⟩] [4])
  .ret)
  .skip))
  (.seq (.seq (.reg [⟨(some 15), .fieldAddr 63 (.tmp 2) 2, none⟩,
    ⟨(some 16), .load 9 (.tmp 15), none⟩,
    ⟨(some 17), .fieldAddr 63 (.tmp 3) 2, none⟩,
    ⟨(some 18), .load 9 (.tmp 17), none⟩,
    ⟨(some 19), .binOp .neq 9 (.tmp 16) (.tmp 18) 9, none⟩] [2, 3, 19])
  (.cond (.tmp 19) (.seq (.reg [⟨(some 4), .assign (.const (.bool false)), none⟩] [4])
  .ret)
  .skip))
  (.seq (.seq (.reg [⟨(some 20), .fieldAddr 63 (.tmp 2) 3, none⟩,
    ⟨(some 21), .load 34 (.tmp 20), none⟩,
    ⟨(some 22), .fieldAddr 63 (.tmp 3) 3, none⟩,
    ⟨(some 23), .load 34 (.tmp 22), none⟩,
    ⟨(some 24), .call ⟨.value (.func 26), #[(.tmp 21), (.tmp 23)], #[34, 34]⟩, none⟩,
    ⟨(some 25), .unOp .not 4 (.tmp 24), none⟩] [25])
  (.cond (.tmp 25) (.seq (.reg [⟨(some 4), .assign (.const (.bool false)), none⟩] [4])
  .ret)
  .skip))
  (.seq (.reg [⟨(some 4), .assign (.const (.bool true)), none⟩] [4])
  .ret))))))
theorem laws_eqSighting_k : fnOk Try.prog (fun _ => false) 56 = some (laws_eqSighting_c.strip, 26, [.tmp 4]) := by kernel_rfl
/-- head: [2, 3, 5, 6] -/
def spec_l13Evidence_l0 : ACode := (.seq (.seq (.reg [⟨(some 8), .move (.tmp 6), none⟩,
    ⟨(some 9), .fieldAddr 63 (.tmp 2) 3, none⟩,
    ⟨(some 10), .load 34 (.tmp 9), none⟩,
    ⟨(some 11), .call ⟨.builtin .len, #[(.tmp 10)], #[34]⟩, none⟩,
    ⟨(some 12), .binOp .lss 3 (.tmp 8) (.tmp 11) 3, none⟩] [2, 3, 5, 6, 12])
  (.cond (.tmp 12) .skip
  (.exit 0)))
  (.seq (.block 1 (.seq (.regQ [⟨(some 15), .fieldAddr 63 (.tmp 3) 3, none⟩,
    ⟨(some 16), .load 34 (.tmp 15), none⟩,
    ⟨(some 17), .fieldAddr 63 (.tmp 2) 3, none⟩,
    ⟨(some 18), .load 34 (.tmp 17), none⟩,
    ⟨(some 19), .move (.tmp 6), none⟩,
    ⟨(some 20), .indexAddr 34 (.tmp 18) (.tmp 19), none⟩,
    ⟨(some 21), .load 3 (.tmp 20), none⟩,
    ⟨(some 22), .call ⟨.value (.func 65), #[(.tmp 16), (.tmp 21)], #[34, 3]⟩, none⟩] [2, 3, 5, 6, 22])
  (.cond (.tmp 22) (.reg [⟨(some 23), .move (.tmp 5), none⟩,
    ⟨(some 24), .binOp .add 3 (.tmp 23) (.const (.int .i64 1)) 3, none⟩,
    ⟨(some 5), .assign (.tmp 24), none⟩] [2, 3, 5, 6])
  .skip)))
  (.reg [⟨(some 13), .move (.tmp 6), none⟩,
    ⟨(some 14), .binOp .add 3 (.tmp 13) (.const (.int .i64 1)) 3, none⟩,
    ⟨(some 6), .assign (.tmp 14), none⟩] [2, 3, 5, 6])))
/-- loop.example/g01062/spec.l13Evidence: number 57, params [0, 1] -/
def spec_l13Evidence_c : ACode := (.seq (.reg [⟨(some 2), .box 63 (.tmp 0), none⟩,
    ⟨(some 3), .box 63 (.tmp 1), none⟩,
    ⟨(some 4), .assign (.const (.int .i64 0)), none⟩] [2, 3])
  (.seq (.reg [⟨(some 5), .assign (.const (.int .i64 0)), none⟩] [2, 3, 5])
  (.seq (.seq (.reg [⟨(some 6), .assign (.const (.int .i64 0)), none⟩] [2, 3, 5, 6])
  (.block 0 (.loop spec_l13Evidence_l0)))
  (.seq (.reg [⟨(some 25), .move (.tmp 5), none⟩,
    ⟨(some 26), .binOp .mul 3 (.const (.int .i64 2)) (.tmp 25) 3, none⟩,
    ⟨(some 27), .fieldAddr 63 (.tmp 2) 3, none⟩,
    ⟨(some 28), .load 34 (.tmp 27), none⟩,
    ⟨(some 29), .call ⟨.builtin .len, #[(.tmp 28)], #[34]⟩, none⟩,
    ⟨(some 30), .move (.tmp 5), none⟩,
    ⟨(some 31), .binOp .sub 3 (.tmp 29) (.tmp 30) 3, none⟩,
    ⟨(some 32), .binOp .sub 3 (.tmp 26) (.tmp 31) 3, none⟩,
    ⟨(some 33), .fieldAddr 63 (.tmp 3) 3, none⟩,
    ⟨(some 34), .load 34 (.tmp 33), none⟩,
    ⟨(some 35), .call ⟨.builtin .len, #[(.tmp 34)], #[34]⟩, none⟩,
    ⟨(some 36), .move (.tmp 5), none⟩,
    ⟨(some 37), .binOp .sub 3 (.tmp 35) (.tmp 36) 3, none⟩,
    ⟨(some 38), .binOp .sub 3 (.tmp 32) (.tmp 37) 3, none⟩,
    ⟨(some 7), .assign (.tmp 38), none⟩] [2, 3, 7])
  (.seq (.seq (.reg [⟨(some 39), .fieldAddr 63 (.tmp 2) 2, none⟩,
    ⟨(some 40), .load 9 (.tmp 39), none⟩,
    ⟨(some 41), .fieldAddr 63 (.tmp 3) 2, none⟩,
    ⟨(some 42), .load 9 (.tmp 41), none⟩,
    ⟨(some 43), .binOp .neq 9 (.tmp 40) (.tmp 42) 9, none⟩] [7, 43])
  (.cond (.tmp 43) (.reg [⟨(some 44), .move (.tmp 7), none⟩,
    ⟨(some 45), .binOp .sub 3 (.tmp 44) (.const (.int .i64 10)) 3, none⟩,
    ⟨(some 7), .assign (.tmp 45), none⟩] [7])
  .skip))
  (.seq (.reg [⟨(some 46), .move (.tmp 7), none⟩,
    ⟨(some 4), .assign (.tmp 46), none⟩] [4])
  .ret))))))
theorem spec_l13Evidence_k : fnOk Try.prog (fun _ => false) 57 = some (spec_l13Evidence_c.strip, 47, [.tmp 4]) := by kernel_rfl
/-- head: [2, 3, 5, 10, 11, 12] -/
def impl_evidence_l0 : ACode := (.seq (.reg [⟨(some 13), .binOp .lss 3 (.tmp 12) (.tmp 11) 3, none⟩] [2, 3, 5, 10, 11, 12, 13])
  (.seq (.cond (.tmp 13) .skip
  (.exit 0))
  (.seq (.block 1 (.seq (.reg [⟨(some 14), .indexAddr 34 (.tmp 10) (.tmp 12), none⟩,
    ⟨(some 15), .load 3 (.tmp 14), none⟩,
    ⟨(some 7), .assign (.tmp 15), none⟩] [2, 3, 5, 7, 10, 11, 12])
  (.seq (.reg [⟨(some 16), .fieldAddr 63 (.tmp 3) 3, none⟩,
    ⟨(some 17), .load 34 (.tmp 16), none⟩,
    ⟨(some 18), .move (.tmp 7), none⟩,
    ⟨(some 19), .call ⟨.value (.func 67), #[(.tmp 17), (.tmp 18)], #[34, 3]⟩, none⟩] [2, 3, 5, 10, 11, 12, 19])
  (.cond (.tmp 19) (.reg [⟨(some 20), .move (.tmp 5), none⟩,
    ⟨(some 21), .binOp .add 3 (.tmp 20) (.const (.int .i64 1)) 3, none⟩,
    ⟨(some 5), .assign (.tmp 21), none⟩] [2, 3, 5, 10, 11, 12])
  .skip))))
  (.reg [⟨(some 22), .binOp .add 3 (.tmp 12) (.const (.int .i64 1)) 3, none⟩,
    ⟨(some 12), .move (.tmp 22), none⟩] [2, 3, 5, 10, 11, 12]))))
/-- loop.example/g01062/impl.evidence: number 58, params [0, 1] -/
def impl_evidence_c : ACode := (.seq (.reg [⟨(some 2), .box 63 (.tmp 0), none⟩,
    ⟨(some 3), .box 63 (.tmp 1), none⟩,
    ⟨(some 4), .assign (.const (.int .i64 0)), none⟩] [2, 3])
  (.seq (.reg [⟨(some 5), .assign (.const (.int .i64 0)), none⟩] [2, 3, 5])
  (.seq (.seq (.reg [⟨(some 9), .fieldAddr 63 (.tmp 2) 3, none⟩,
    ⟨(some 10), .load 34 (.tmp 9), none⟩,
    ⟨(some 11), .call ⟨.builtin .len, #[(.tmp 10)], #[34]⟩, none⟩,
    ⟨(some 12), .move (.const (.int .i64 0)), none⟩] [2, 3, 5, 10, 11, 12])
  (.block 0 (.loop impl_evidence_l0)))
  (.seq (.reg [⟨(some 23), .move (.tmp 5), none⟩,
    ⟨(some 24), .binOp .mul 3 (.const (.int .i64 4)) (.tmp 23) 3, none⟩,
    ⟨(some 25), .fieldAddr 63 (.tmp 2) 3, none⟩,
    ⟨(some 26), .load 34 (.tmp 25), none⟩,
    ⟨(some 27), .call ⟨.builtin .len, #[(.tmp 26)], #[34]⟩, none⟩,
    ⟨(some 28), .binOp .sub 3 (.tmp 24) (.tmp 27) 3, none⟩,
    ⟨(some 29), .fieldAddr 63 (.tmp 3) 3, none⟩,
    ⟨(some 30), .load 34 (.tmp 29), none⟩,
    ⟨(some 31), .call ⟨.builtin .len, #[(.tmp 30)], #[34]⟩, none⟩,
    ⟨(some 32), .binOp .sub 3 (.tmp 28) (.tmp 31) 3, none⟩,
    ⟨(some 8), .assign (.tmp 32), none⟩] [2, 3, 8])
  (.seq (.seq (.reg [⟨(some 33), .fieldAddr 63 (.tmp 2) 2, none⟩,
    ⟨(some 34), .load 9 (.tmp 33), none⟩,
    ⟨(some 35), .fieldAddr 63 (.tmp 3) 2, none⟩,
    ⟨(some 36), .load 9 (.tmp 35), none⟩,
    ⟨(some 37), .binOp .neq 9 (.tmp 34) (.tmp 36) 9, none⟩] [8, 37])
  (.cond (.tmp 37) (.reg [⟨(some 38), .move (.tmp 8), none⟩,
    ⟨(some 39), .binOp .sub 3 (.tmp 38) (.const (.int .i64 10)) 3, none⟩,
    ⟨(some 8), .assign (.tmp 39), none⟩] [8])
  .skip))
  (.seq (.reg [⟨(some 40), .move (.tmp 8), none⟩,
    ⟨(some 4), .assign (.tmp 40), none⟩] [4])
  .ret))))))
theorem impl_evidence_k : fnOk Try.prog (fun _ => false) 58 = some (impl_evidence_c.strip, 41, [.tmp 4]) := by kernel_rfl
/-- head: [0, 1, 5] -/
def spec_l13Find_l0 : ACode := (.seq (.seq (.reg [⟨(some 6), .move (.tmp 5), none⟩,
    ⟨(some 7), .move (.tmp 0), none⟩,
    ⟨(some 8), .call ⟨.builtin .len, #[(.tmp 7)], #[25]⟩, none⟩,
    ⟨(some 9), .binOp .lss 3 (.tmp 6) (.tmp 8) 3, none⟩] [0, 1, 5, 9])
  (.cond (.tmp 9) .skip
  (.exit 0)))
  (.seq (.block 1 (.seq (.reg [⟨(some 12), .move (.tmp 0), none⟩,
    ⟨(some 13), .move (.tmp 5), none⟩,
    ⟨(some 14), .indexAddr 25 (.tmp 12) (.tmp 13), none⟩,
    ⟨(some 15), .fieldAddr 63 (.tmp 14) 0, none⟩,
    ⟨(some 16), .load 3 (.tmp 15), none⟩,
    ⟨(some 17), .move (.tmp 1), none⟩,
    ⟨(some 18), .binOp .eql 3 (.tmp 16) (.tmp 17) 3, none⟩] [0, 1, 5, 18])
  (.cond (.tmp 18) (.seq (.reg [⟨(some 19), .move (.tmp 5), none⟩,
    ⟨(some 4), .assign (.tmp 19), none⟩] [4])
  .ret)
  .skip)))
  (.reg [⟨(some 10), .move (.tmp 5), none⟩,
    ⟨(some 11), .binOp .add 3 (.tmp 10) (.const (.int .i64 1)) 3, none⟩,
    ⟨(some 5), .assign (.tmp 11), none⟩] [0, 1, 5])))
/-- loop.example/g01062/spec.l13Find: number 59, params [0, 1] -/
def spec_l13Find_c : ACode := (.seq (.reg [⟨(some 4), .assign (.const (.int .i64 0)), none⟩] [0, 1])
  (.seq (.seq (.reg [⟨(some 5), .assign (.const (.int .i64 0)), none⟩] [0, 1, 5])
  (.block 0 (.loop spec_l13Find_l0)))
  (.seq (.reg [⟨(some 4), .assign (.const (.int .i64 (-1))), none⟩] [4])
  .ret)))
theorem spec_l13Find_k : fnOk Try.prog (fun _ => false) 59 = some (spec_l13Find_c.strip, 20, [.tmp 4]) := by kernel_rfl
/-- loop.example/g01062/impl.sightingAt: number 60, params [0, 1] -/
def impl_sightingAt_c : ACode := (.seq (.reg [⟨(some 3), .box 3 (.tmp 1), none⟩,
    ⟨(some 4), .assign (.const (.int .i64 0)), none⟩] [0, 3])
  (.seq (.reg [⟨(some 5), .move (.tmp 0), none⟩,
    ⟨(some 6), .makeFunc (.func 87) #[] #[(.tmp 3)], none⟩,
    ⟨(some 7), .call ⟨.value (.func 86), #[(.tmp 5), (.tmp 6)], #[25, 84]⟩, none⟩,
    ⟨(some 4), .assign (.tmp 7), none⟩] [4])
  .ret))
theorem impl_sightingAt_k : fnOk Try.prog (fun _ => false) 60 = some (impl_sightingAt_c.strip, 8, [.tmp 4]) := by kernel_rfl
/-- loop.example/g01062/spec.l1Own: number 61, params [0] -/
def spec_l1Own_c : ACode := (.seq (.reg [⟨(some 2), .assign (.const (.slice none 0 0)), none⟩] [0])
  (.seq (.reg [⟨(some 3), .buildSlice 34 0 #[], none⟩,
    ⟨(some 4), .move (.tmp 0), none⟩,
    ⟨(some 5), .call ⟨.builtin .append, #[(.tmp 3), (.tmp 4)], #[34, 34]⟩, none⟩,
    ⟨(some 2), .assign (.tmp 5), none⟩] [2])
  .ret))
theorem spec_l1Own_k : fnOk Try.prog (fun _ => false) 61 = some (spec_l1Own_c.strip, 6, [.tmp 2]) := by kernel_rfl
/-- head: [3, 6, 7, 8] -/
def impl_copySightings_l0 : ACode := (.seq (.reg [⟨(some 9), .binOp .lss 3 (.tmp 8) (.tmp 7) 3, none⟩] [3, 6, 7, 8, 9])
  (.seq (.cond (.tmp 9) .skip
  (.exit 0))
  (.seq (.block 1 (.seq (.reg [⟨(some 10), .indexAddr 25 (.tmp 6) (.tmp 8), none⟩,
    ⟨(some 11), .load 63 (.tmp 10), none⟩,
    ⟨(some 5), .alloc 63, none⟩,
    ⟨none, .store 63 (.tmp 5) (.tmp 11), none⟩] [3, 5, 6, 7, 8])
  (.seq (.reg [⟨(some 12), .fieldAddr 63 (.tmp 5) 3, none⟩,
    ⟨(some 13), .load 34 (.tmp 12), none⟩,
    ⟨(some 14), .call ⟨.value (.func 63), #[(.tmp 13)], #[34]⟩, none⟩,
    ⟨(some 15), .fieldAddr 63 (.tmp 5) 3, none⟩,
    ⟨none, .store 34 (.tmp 15) (.tmp 14), none⟩] [3, 5, 6, 7, 8])
  (.reg [⟨(some 16), .move (.tmp 3), none⟩,
    ⟨(some 17), .load 63 (.tmp 5), none⟩,
    ⟨(some 18), .buildSlice 25 1 #[(0, (.tmp 17))], none⟩,
    ⟨(some 19), .call ⟨.builtin .append, #[(.tmp 16), (.tmp 18)], #[25, 25]⟩, none⟩,
    ⟨(some 3), .assign (.tmp 19), none⟩] [3, 6, 7, 8]))))
  (.reg [⟨(some 20), .binOp .add 3 (.tmp 8) (.const (.int .i64 1)) 3, none⟩,
    ⟨(some 8), .move (.tmp 20), none⟩] [3, 6, 7, 8]))))
/-- loop.example/g01062/impl.copySightings: number 62, params [0] -/
def impl_copySightings_c : ACode := (.seq (.reg [⟨(some 2), .assign (.const (.slice none 0 0)), none⟩] [0])
  (.seq (.reg [⟨(some 3), .assign (.const (.slice none 0 0)), none⟩] [0, 3])
  (.seq (.seq (.reg [⟨(some 6), .move (.tmp 0), none⟩,
    ⟨(some 7), .call ⟨.builtin .len, #[(.tmp 6)], #[25]⟩, none⟩,
    ⟨(some 8), .move (.const (.int .i64 0)), none⟩] [3, 6, 7, 8])
  (.block 0 (.loop impl_copySightings_l0)))
  (.seq (.reg [⟨(some 21), .move (.tmp 3), none⟩,
    ⟨(some 2), .assign (.tmp 21), none⟩] [2])
  .ret))))
theorem impl_copySightings_k : fnOk Try.prog (fun _ => false) 62 = some (impl_copySightings_c.strip, 22, [.tmp 2]) := by kernel_rfl
/-- slices.Clone[[]int,int]: number 63, params [0] -/
def slices_Clone___int_int__c : ACode := (.seq (.reg [⟨(some 2), .assign (.const (.slice none 0 0)), none⟩] [0])
  (.seq (.seq (.reg [⟨(some 3), .move (.tmp 0), none⟩,
    ⟨(some 4), .binOp .eql 34 (.tmp 3) (.const (.slice none 0 0)) 34, none⟩] [0, 4])
  (.cond (.tmp 4) (.seq (.reg [⟨(some 2), .assign (.const (.slice none 0 0)), none⟩] [2])
  .ret)
  .skip))
  (.seq (.reg [⟨(some 5), .buildSlice 34 0 #[], none⟩,
    ⟨(some 6), .move (.tmp 0), none⟩,
    ⟨(some 7), .call ⟨.builtin .append, #[(.tmp 5), (.tmp 6)], #[34, 34]⟩, none⟩,
    ⟨(some 2), .assign (.tmp 7), none⟩] [2])
  .ret)))
theorem slices_Clone___int_int__k : fnOk Try.prog (fun _ => false) 63 = some (slices_Clone___int_int__c.strip, 8, [.tmp 2]) := by kernel_rfl
/-- head: [0, 3] -/
def laws_markText_l0 : ACode := (.seq (.seq (.reg [⟨(some 6), .move (.tmp 0), none⟩,
    ⟨(some 7), .binOp .gtr 3 (.tmp 6) (.const (.int .i64 0)) 3, none⟩] [0, 3, 7])
  (.cond (.tmp 7) .skip
  (.exit 0)))
  (.block 1 (.seq (.reg [⟨(some 8), .move (.tmp 0), none⟩,
    ⟨(some 9), .binOp .rem 3 (.tmp 8) (.const (.int .i64 10)) 3, none⟩,
    ⟨(some 10), .binOp .add 3 (.const (.int .i64 48)) (.tmp 9) 3, none⟩,
    ⟨(some 11), .convert 3 5 (.tmp 10), none⟩,
    ⟨(some 12), .buildSlice 53 1 #[(0, (.tmp 11))], none⟩,
    ⟨(some 13), .convert 53 9 (.tmp 12), none⟩,
    ⟨(some 14), .move (.tmp 3), none⟩,
    ⟨(some 15), .binOp .add 9 (.tmp 13) (.tmp 14) 9, none⟩,
    ⟨(some 3), .assign (.tmp 15), none⟩] [0, 3])
  (.reg [⟨(some 16), .move (.tmp 0), none⟩,
    ⟨(some 17), .binOp .quo 3 (.tmp 16) (.const (.int .i64 10)) 3, none⟩,
    ⟨(some 0), .assign (.tmp 17), none⟩] [0, 3]))))
/-- loop.example/g01062/laws.markText: number 64, params [0] -/
def laws_markText_c : ACode := (.seq (.reg [⟨(some 2), .assign (.const (.string ⟨#[]⟩)), none⟩] [0])
  (.seq (.seq (.reg [⟨(some 4), .move (.tmp 0), none⟩,
    ⟨(some 5), .binOp .leq 3 (.tmp 4) (.const (.int .i64 0)) 3, none⟩] [0, 5])
  (.cond (.tmp 5) (.seq (.reg [⟨(some 2), .assign (.const (.string ⟨#[109, 48]⟩)), none⟩] [2])
  .ret)
  .skip))
  (.seq (.reg [⟨(some 3), .assign (.const (.string ⟨#[]⟩)), none⟩] [0, 3])
  (.seq (.block 0 (.loop laws_markText_l0))
  (.seq (.reg [⟨(some 18), .move (.tmp 3), none⟩,
    ⟨(some 19), .binOp .add 9 (.const (.string ⟨#[109]⟩)) (.tmp 18) 9, none⟩,
    ⟨(some 2), .assign (.tmp 19), none⟩] [2])
  .ret)))))
theorem laws_markText_k : fnOk Try.prog (fun _ => false) 64 = some (laws_markText_c.strip, 20, [.tmp 2]) := by kernel_rfl
/-- head: [0, 1, 5] -/
def spec_l1Has_l0 : ACode := (.seq (.seq (.reg [⟨(some 6), .move (.tmp 5), none⟩,
    ⟨(some 7), .move (.tmp 0), none⟩,
    ⟨(some 8), .call ⟨.builtin .len, #[(.tmp 7)], #[34]⟩, none⟩,
    ⟨(some 9), .binOp .lss 3 (.tmp 6) (.tmp 8) 3, none⟩] [0, 1, 5, 9])
  (.cond (.tmp 9) .skip
  (.exit 0)))
  (.seq (.block 1 (.seq (.reg [⟨(some 12), .move (.tmp 0), none⟩,
    ⟨(some 13), .move (.tmp 5), none⟩,
    ⟨(some 14), .indexAddr 34 (.tmp 12) (.tmp 13), none⟩,
    ⟨(some 15), .load 3 (.tmp 14), none⟩,
    ⟨(some 16), .move (.tmp 1), none⟩,
    ⟨(some 17), .binOp .eql 3 (.tmp 15) (.tmp 16) 3, none⟩] [0, 1, 5, 17])
  (.cond (.tmp 17) (.seq (.reg [⟨(some 4), .assign (.const (.bool true)), none⟩] [4])
  .ret)
  .skip)))
  (.reg [⟨(some 10), .move (.tmp 5), none⟩,
    ⟨(some 11), .binOp .add 3 (.tmp 10) (.const (.int .i64 1)) 3, none⟩,
    ⟨(some 5), .assign (.tmp 11), none⟩] [0, 1, 5])))
/-- loop.example/g01062/spec.l1Has: number 65, params [0, 1] -/
def spec_l1Has_c : ACode := (.seq (.reg [⟨(some 4), .assign (.const (.bool false)), none⟩] [0, 1])
  (.seq (.seq (.reg [⟨(some 5), .assign (.const (.int .i64 0)), none⟩] [0, 1, 5])
  (.block 0 (.loop spec_l1Has_l0)))
  (.seq (.reg [⟨(some 4), .assign (.const (.bool false)), none⟩] [4])
  .ret)))
theorem spec_l1Has_k : fnOk Try.prog (fun _ => false) 65 = some (spec_l1Has_c.strip, 18, [.tmp 4]) := by kernel_rfl
/-- head: [0, 1, 7, 8, 9, 10] -/
def spec_l13Cover_l0 : ACode := (.seq (.seq (.reg [⟨(some 20), .move (.tmp 10), none⟩,
    ⟨(some 21), .move (.tmp 7), none⟩,
    ⟨(some 22), .call ⟨.builtin .len, #[(.tmp 21)], #[34]⟩, none⟩,
    ⟨(some 23), .binOp .lss 3 (.tmp 20) (.tmp 22) 3, none⟩,
    ⟨(some 24), .move (.tmp 23), none⟩,
    ⟨(some 25), .move (.tmp 7), (some (some 24, true))⟩,
    ⟨(some 26), .move (.tmp 9), (some (some 24, true))⟩,
    ⟨(some 27), .call ⟨.value (.func 65), #[(.tmp 25), (.tmp 26)], #[34, 3]⟩, (some (some 24, true))⟩,
    ⟨(some 28), .unOp .not 4 (.tmp 27), (some (some 24, true))⟩,
    ⟨(some 29), .pick (.tmp 24) (.tmp 28) (.const (.bool false)), none⟩] [0, 1, 7, 8, 9, 10, 29])
  (.cond (.tmp 29) .skip
  (.exit 4)))
  (.seq (.block 5 (.seq (.regQ [⟨(some 32), .move (.tmp 0), none⟩,
    ⟨(some 33), .move (.tmp 7), none⟩,
    ⟨(some 34), .move (.tmp 10), none⟩,
    ⟨(some 35), .indexAddr 34 (.tmp 33) (.tmp 34), none⟩,
    ⟨(some 36), .load 3 (.tmp 35), none⟩,
    ⟨(some 37), .indexAddr 25 (.tmp 32) (.tmp 36), none⟩,
    ⟨(some 38), .load 63 (.tmp 37), none⟩,
    ⟨(some 39), .move (.tmp 0), none⟩,
    ⟨(some 40), .move (.tmp 9), none⟩,
    ⟨(some 41), .indexAddr 25 (.tmp 39) (.tmp 40), none⟩,
    ⟨(some 42), .load 63 (.tmp 41), none⟩,
    ⟨(some 43), .call ⟨.value (.func 57), #[(.tmp 38), (.tmp 42)], #[63, 63]⟩, none⟩,
    ⟨(some 44), .move (.tmp 1), none⟩,
    ⟨(some 45), .binOp .geq 3 (.tmp 43) (.tmp 44) 3, none⟩] [0, 1, 7, 8, 9, 10, 45])
  (.cond (.tmp 45) (.seq (.reg [⟨(some 46), .move (.tmp 7), none⟩,
    ⟨(some 47), .move (.tmp 9), none⟩,
    ⟨(some 48), .call ⟨.value (.func 74), #[(.tmp 46), (.tmp 47)], #[34, 3]⟩, none⟩,
    ⟨(some 7), .assign (.tmp 48), none⟩] [0, 1, 7, 9, 10])
  (.reg [⟨(some 8), .assign (.const (.bool true)), none⟩] [0, 1, 7, 8, 9, 10]))
  .skip)))
  (.reg [⟨(some 30), .move (.tmp 10), none⟩,
    ⟨(some 31), .binOp .add 3 (.tmp 30) (.const (.int .i64 1)) 3, none⟩,
    ⟨(some 10), .assign (.tmp 31), none⟩] [0, 1, 7, 8, 9, 10])))
/-- head: [0, 1, 7, 8, 9] -/
def spec_l13Cover_l1 : ACode := (.seq (.seq (.reg [⟨(some 14), .move (.tmp 9), none⟩,
    ⟨(some 15), .move (.tmp 0), none⟩,
    ⟨(some 16), .call ⟨.builtin .len, #[(.tmp 15)], #[25]⟩, none⟩,
    ⟨(some 17), .binOp .lss 3 (.tmp 14) (.tmp 16) 3, none⟩] [0, 1, 7, 8, 9, 17])
  (.cond (.tmp 17) .skip
  (.exit 2)))
  (.seq (.block 3 (.seq (.reg [⟨(some 10), .assign (.const (.int .i64 0)), none⟩] [0, 1, 7, 8, 9, 10])
  (.block 4 (.loop spec_l13Cover_l0))))
  (.reg [⟨(some 18), .move (.tmp 9), none⟩,
    ⟨(some 19), .binOp .add 3 (.tmp 18) (.const (.int .i64 1)) 3, none⟩,
    ⟨(some 9), .assign (.tmp 19), none⟩] [0, 1, 7, 8, 9])))
/-- head: [0, 1, 7, 8] -/
def spec_l13Cover_l2 : ACode := (.seq (.seq (.reg [⟨(some 13), .move (.tmp 8), none⟩] [0, 1, 7, 13])
  (.cond (.tmp 13) .skip
  (.exit 0)))
  (.block 1 (.seq (.reg [⟨(some 8), .assign (.const (.bool false)), none⟩] [0, 1, 7, 8])
  (.seq (.reg [⟨(some 9), .assign (.const (.int .i64 0)), none⟩] [0, 1, 7, 8, 9])
  (.block 2 (.loop spec_l13Cover_l1))))))
/-- loop.example/g01062/spec.l13Cover: number 66, params [0, 1, 2] -/
def spec_l13Cover_c : ACode := (.seq (.reg [⟨(some 6), .assign (.const (.slice none 0 0)), none⟩] [0, 1, 2])
  (.seq (.reg [⟨(some 11), .move (.tmp 2), none⟩,
    ⟨(some 12), .buildSlice 34 1 #[(0, (.tmp 11))], none⟩,
    ⟨(some 7), .assign (.tmp 12), none⟩] [0, 1, 7])
  (.seq (.seq (.reg [⟨(some 8), .assign (.const (.bool true)), none⟩] [0, 1, 7, 8])
  (.block 0 (.loop spec_l13Cover_l2)))
  (.seq (.reg [⟨(some 49), .move (.tmp 7), none⟩,
    ⟨(some 6), .assign (.tmp 49), none⟩] [6])
  .ret))))
theorem spec_l13Cover_k : fnOk Try.prog (fun _ => false) 66 = some (spec_l13Cover_c.strip, 50, [.tmp 6]) := by kernel_rfl
/-- slices.Contains[[]int,int]: number 67, params [0, 1] -/
def slices_Contains___int_int__c : ACode := (.seq (.reg [⟨(some 4), .assign (.const (.bool false)), none⟩] [0, 1])
  (.seq (.reg [⟨(some 5), .move (.tmp 0), none⟩,
    ⟨(some 6), .move (.tmp 1), none⟩,
    ⟨(some 7), .call ⟨.value (.func 88), #[(.tmp 5), (.tmp 6)], #[34, 3]⟩, none⟩,
    ⟨(some 8), .binOp .geq 3 (.tmp 7) (.const (.int .i64 0)) 3, none⟩,
    ⟨(some 4), .assign (.tmp 8), none⟩] [4])
  .ret))
theorem slices_Contains___int_int__k : fnOk Try.prog (fun _ => false) 67 = some (slices_Contains___int_int__c.strip, 9, [.tmp 4]) := by kernel_rfl
/-- head: [7, 15, 16, 17] -/
def impl_groupWith_l0 : ACode := (.seq (.reg [⟨(some 18), .binOp .lss 3 (.tmp 17) (.tmp 16) 3, none⟩] [7, 15, 16, 17, 18])
  (.seq (.cond (.tmp 18) .skip
  (.exit 0))
  (.seq (.block 1 (.seq (.reg [⟨(some 19), .indexAddr 47 (.tmp 15) (.tmp 17), none⟩,
    ⟨(some 20), .load 34 (.tmp 19), none⟩,
    ⟨(some 9), .assign (.tmp 20), none⟩] [7, 9, 15, 16, 17])
  (.seq (.reg [⟨(some 21), .move (.tmp 9), none⟩,
    ⟨(some 22), .move (.tmp 7), none⟩,
    ⟨(some 23), .call ⟨.value (.func 67), #[(.tmp 21), (.tmp 22)], #[34, 3]⟩, none⟩] [7, 9, 15, 16, 17, 23])
  (.cond (.tmp 23) (.seq (.reg [⟨(some 24), .move (.tmp 9), none⟩,
    ⟨(some 6), .assign (.tmp 24), none⟩] [6])
  .ret)
  .skip))))
  (.reg [⟨(some 25), .binOp .add 3 (.tmp 17) (.const (.int .i64 1)) 3, none⟩,
    ⟨(some 17), .move (.tmp 25), none⟩] [7, 15, 16, 17]))))
/-- loop.example/g01062/impl.groupWith: number 68, params [0, 1, 2] -/
def impl_groupWith_c : ACode := (.seq (.reg [⟨(some 6), .assign (.const (.slice none 0 0)), none⟩] [0, 1, 2])
  (.seq (.reg [⟨(some 10), .move (.tmp 0), none⟩,
    ⟨(some 11), .move (.tmp 2), none⟩,
    ⟨(some 12), .call ⟨.value (.func 60), #[(.tmp 10), (.tmp 11)], #[25, 3]⟩, none⟩,
    ⟨(some 7), .assign (.tmp 12), none⟩] [0, 1, 7])
  (.seq (.seq (.reg [⟨(some 13), .move (.tmp 0), none⟩,
    ⟨(some 14), .move (.tmp 1), none⟩,
    ⟨(some 15), .call ⟨.value (.func 71), #[(.tmp 13), (.tmp 14)], #[25, 3]⟩, none⟩,
    ⟨(some 16), .call ⟨.builtin .len, #[(.tmp 15)], #[47]⟩, none⟩,
    ⟨(some 17), .move (.const (.int .i64 0)), none⟩] [7, 15, 16, 17])
  (.block 0 (.loop impl_groupWith_l0)))
  (.seq (.reg [⟨(some 6), .assign (.const (.slice none 0 0)), none⟩] [6])
  .ret))))
theorem impl_groupWith_k : fnOk Try.prog (fun _ => false) 68 = some (impl_groupWith_c.strip, 26, [.tmp 6]) := by kernel_rfl
/-- loop.example/g01062/spec.l13Limit: number 69, params [0] -/
def spec_l13Limit_c : ACode := (.seq (.reg [⟨(some 2), .assign (.const (.bool false)), none⟩] [0])
  (.seq (.reg [⟨(some 3), .move (.tmp 0), none⟩,
    ⟨(some 4), .call ⟨.value (.func 89), #[(.tmp 3), (.const (.int .i64 (-30))), (.const (.int .i64 16))], #[3, 3, 3]⟩, none⟩,
    ⟨(some 2), .assign (.tmp 4), none⟩] [2])
  .ret))
theorem spec_l13Limit_k : fnOk Try.prog (fun _ => false) 69 = some (spec_l13Limit_c.strip, 5, [.tmp 2]) := by kernel_rfl
/-- loop.example/g01062/impl.inRange: number 70, params [0, 1, 2] -/
def impl_inRange_c : ACode := (.seq (.reg [⟨(some 6), .assign (.const (.bool false)), none⟩] [0, 1, 2])
  (.seq (.reg [⟨(some 7), .move (.tmp 0), none⟩,
    ⟨(some 8), .move (.tmp 1), none⟩,
    ⟨(some 9), .binOp .geq 3 (.tmp 7) (.tmp 8) 3, none⟩,
    ⟨(some 10), .move (.tmp 9), none⟩,
    ⟨(some 11), .move (.tmp 0), (some (some 10, true))⟩,
    ⟨(some 12), .move (.tmp 2), (some (some 10, true))⟩,
    ⟨(some 13), .binOp .leq 3 (.tmp 11) (.tmp 12) 3, (some (some 10, true))⟩,
    ⟨(some 14), .pick (.tmp 10) (.tmp 13) (.const (.bool false)), none⟩,
    ⟨(some 6), .assign (.tmp 14), none⟩] [6])
  .ret))
theorem impl_inRange_k : fnOk Try.prog (fun _ => false) 70 = some (impl_inRange_c.strip, 15, [.tmp 6]) := by kernel_rfl
/-- head: [0, 1, 5, 6, 8, 9, 15, 16, 35, 36] -/
def impl_sightingGroups_l0 : ACode := (.seq (.reg [⟨(some 37), .binOp .lss 3 (.tmp 36) (.tmp 35) 3, none⟩] [0, 1, 5, 6, 8, 9, 15, 16, 35, 36, 37])
  (.seq (.cond (.tmp 37) .skip
  (.exit 4))
  (.seq (.block 5 (.seq (.reg [⟨(some 38), .move (.tmp 36), none⟩,
    ⟨(some 10), .assign (.tmp 38), none⟩] [0, 1, 5, 6, 8, 9, 10, 15, 16, 35, 36])
  (.seq (.regQ [⟨(some 39), .move (.tmp 5), none⟩,
    ⟨(some 40), .move (.tmp 10), none⟩,
    ⟨(some 41), .indexAddr 88 (.tmp 39) (.tmp 40), none⟩,
    ⟨(some 42), .load 4 (.tmp 41), none⟩,
    ⟨(some 43), .unOp .not 4 (.tmp 42), none⟩,
    ⟨(some 44), .move (.tmp 43), none⟩,
    ⟨(some 45), .move (.tmp 0), (some (some 44, true))⟩,
    ⟨(some 46), .move (.tmp 8), (some (some 44, true))⟩,
    ⟨(some 47), .move (.tmp 9), (some (some 44, true))⟩,
    ⟨(some 48), .indexAddr 34 (.tmp 46) (.tmp 47), (some (some 44, true))⟩,
    ⟨(some 49), .load 3 (.tmp 48), (some (some 44, true))⟩,
    ⟨(some 50), .indexAddr 25 (.tmp 45) (.tmp 49), (some (some 44, true))⟩,
    ⟨(some 51), .load 63 (.tmp 50), (some (some 44, true))⟩,
    ⟨(some 52), .move (.tmp 0), (some (some 44, true))⟩,
    ⟨(some 53), .move (.tmp 10), (some (some 44, true))⟩,
    ⟨(some 54), .indexAddr 25 (.tmp 52) (.tmp 53), (some (some 44, true))⟩,
    ⟨(some 55), .load 63 (.tmp 54), (some (some 44, true))⟩,
    ⟨(some 56), .call ⟨.value (.func 58), #[(.tmp 51), (.tmp 55)], #[63, 63]⟩, (some (some 44, true))⟩,
    ⟨(some 57), .move (.tmp 1), (some (some 44, true))⟩,
    ⟨(some 58), .binOp .geq 3 (.tmp 56) (.tmp 57) 3, (some (some 44, true))⟩,
    ⟨(some 59), .pick (.tmp 44) (.tmp 58) (.const (.bool false)), none⟩] [0, 1, 5, 6, 8, 9, 10, 15, 16, 35, 36, 59])
  (.cond (.tmp 59) (.seq (.reg [⟨(some 60), .move (.tmp 5), none⟩,
    ⟨(some 61), .move (.tmp 10), none⟩,
    ⟨(some 62), .indexAddr 88 (.tmp 60) (.tmp 61), none⟩,
    ⟨none, .store 4 (.tmp 62) (.const (.bool true)), none⟩] [0, 1, 5, 6, 8, 9, 10, 15, 16, 35, 36])
  (.reg [⟨(some 63), .move (.tmp 8), none⟩,
    ⟨(some 64), .move (.tmp 10), none⟩,
    ⟨(some 65), .buildSlice 34 1 #[(0, (.tmp 64))], none⟩,
    ⟨(some 66), .call ⟨.builtin .append, #[(.tmp 63), (.tmp 65)], #[34, 34]⟩, none⟩,
    ⟨(some 8), .assign (.tmp 66), none⟩] [0, 1, 5, 6, 8, 9, 15, 16, 35, 36]))
  .skip))))
  (.reg [⟨(some 67), .binOp .add 3 (.tmp 36) (.const (.int .i64 1)) 3, none⟩,
    ⟨(some 36), .move (.tmp 67), none⟩] [0, 1, 5, 6, 8, 9, 15, 16, 35, 36]))))
/-- head: [0, 1, 5, 6, 8, 9, 15, 16] -/
def impl_sightingGroups_l1 : ACode := (.seq (.seq (.reg [⟨(some 28), .move (.tmp 9), none⟩,
    ⟨(some 29), .move (.tmp 8), none⟩,
    ⟨(some 30), .call ⟨.builtin .len, #[(.tmp 29)], #[34]⟩, none⟩,
    ⟨(some 31), .binOp .lss 3 (.tmp 28) (.tmp 30) 3, none⟩] [0, 1, 5, 6, 8, 9, 15, 16, 31])
  (.cond (.tmp 31) .skip
  (.exit 2)))
  (.seq (.block 3 (.seq (.reg [⟨(some 34), .move (.tmp 0), none⟩,
    ⟨(some 35), .call ⟨.builtin .len, #[(.tmp 34)], #[25]⟩, none⟩,
    ⟨(some 36), .move (.const (.int .i64 0)), none⟩] [0, 1, 5, 6, 8, 9, 15, 16, 35, 36])
  (.block 4 (.loop impl_sightingGroups_l0))))
  (.reg [⟨(some 32), .move (.tmp 9), none⟩,
    ⟨(some 33), .binOp .add 3 (.tmp 32) (.const (.int .i64 1)) 3, none⟩,
    ⟨(some 9), .assign (.tmp 33), none⟩] [0, 1, 5, 6, 8, 9, 15, 16])))
/-- head: [0, 1, 5, 6, 15, 16] -/
def impl_sightingGroups_l2 : ACode := (.seq (.reg [⟨(some 17), .binOp .lss 3 (.tmp 16) (.tmp 15) 3, none⟩] [0, 1, 5, 6, 15, 16, 17])
  (.seq (.cond (.tmp 17) .skip
  (.exit 0))
  (.seq (.block 1 (.seq (.reg [⟨(some 18), .move (.tmp 16), none⟩,
    ⟨(some 7), .assign (.tmp 18), none⟩] [0, 1, 5, 6, 7, 15, 16])
  (.seq (.seq (.reg [⟨(some 19), .move (.tmp 5), none⟩,
    ⟨(some 20), .move (.tmp 7), none⟩,
    ⟨(some 21), .indexAddr 88 (.tmp 19) (.tmp 20), none⟩,
    ⟨(some 22), .load 4 (.tmp 21), none⟩] [0, 1, 5, 6, 7, 15, 16, 22])
  (.cond (.tmp 22) (.exit 1)
  .skip))
  (.seq (.reg [⟨(some 23), .move (.tmp 5), none⟩,
    ⟨(some 24), .move (.tmp 7), none⟩,
    ⟨(some 25), .indexAddr 88 (.tmp 23) (.tmp 24), none⟩,
    ⟨none, .store 4 (.tmp 25) (.const (.bool true)), none⟩] [0, 1, 5, 6, 7, 15, 16])
  (.seq (.reg [⟨(some 26), .move (.tmp 7), none⟩,
    ⟨(some 27), .buildSlice 34 1 #[(0, (.tmp 26))], none⟩,
    ⟨(some 8), .assign (.tmp 27), none⟩] [0, 1, 5, 6, 8, 15, 16])
  (.seq (.seq (.reg [⟨(some 9), .assign (.const (.int .i64 0)), none⟩] [0, 1, 5, 6, 8, 9, 15, 16])
  (.block 2 (.loop impl_sightingGroups_l1)))
  (.seq (.reg [⟨(some 68), .move (.tmp 8), none⟩,
    ⟨(some 69), .call ⟨.value (.func 75), #[(.tmp 68)], #[34]⟩, none⟩] [0, 1, 5, 6, 8, 15, 16])
  (.reg [⟨(some 70), .move (.tmp 6), none⟩,
    ⟨(some 71), .move (.tmp 8), none⟩,
    ⟨(some 72), .buildSlice 47 1 #[(0, (.tmp 71))], none⟩,
    ⟨(some 73), .call ⟨.builtin .append, #[(.tmp 70), (.tmp 72)], #[47, 47]⟩, none⟩,
    ⟨(some 6), .assign (.tmp 73), none⟩] [0, 1, 5, 6, 15, 16]))))))))
  (.reg [⟨(some 74), .binOp .add 3 (.tmp 16) (.const (.int .i64 1)) 3, none⟩,
    ⟨(some 16), .move (.tmp 74), none⟩] [0, 1, 5, 6, 15, 16]))))
/-- loop.example/g01062/impl.sightingGroups: number 71, params [0, 1] -/
def impl_sightingGroups_c : ACode := (.seq (.reg [⟨(some 4), .assign (.const (.slice none 0 0)), none⟩] [0, 1])
  (.seq (.reg [⟨(some 11), .move (.tmp 0), none⟩,
    ⟨(some 12), .call ⟨.builtin .len, #[(.tmp 11)], #[25]⟩, none⟩,
    ⟨(some 13), .makeSlice 88 (.tmp 12) (.tmp 12), none⟩,
    ⟨(some 5), .assign (.tmp 13), none⟩] [0, 1, 5])
  (.seq (.reg [⟨(some 6), .assign (.const (.slice none 0 0)), none⟩] [0, 1, 5, 6])
  (.seq (.seq (.reg [⟨(some 14), .move (.tmp 0), none⟩,
    ⟨(some 15), .call ⟨.builtin .len, #[(.tmp 14)], #[25]⟩, none⟩,
    ⟨(some 16), .move (.const (.int .i64 0)), none⟩] [0, 1, 5, 6, 15, 16])
  (.block 0 (.loop impl_sightingGroups_l2)))
  (.seq (.reg [⟨(some 75), .move (.tmp 6), none⟩,
    ⟨(some 4), .assign (.tmp 75), none⟩] [4])
  .ret)))))
theorem impl_sightingGroups_k : fnOk Try.prog (fun _ => false) 71 = some (impl_sightingGroups_c.strip, 76, [.tmp 4]) := by kernel_rfl
/-- loop.example/g01062/spec.l1Least: number 72, params [0, 1] -/
def spec_l1Least_c : ACode := (.seq (.reg [⟨(some 4), .assign (.const (.int .i64 0)), none⟩] [0, 1])
  (.seq (.seq (.reg [⟨(some 5), .move (.tmp 0), none⟩,
    ⟨(some 6), .move (.tmp 1), none⟩,
    ⟨(some 7), .binOp .lss 3 (.tmp 5) (.tmp 6) 3, none⟩] [0, 1, 7])
  (.cond (.tmp 7) (.seq (.reg [⟨(some 8), .move (.tmp 0), none⟩,
    ⟨(some 4), .assign (.tmp 8), none⟩] [4])
  .ret)
  .skip))
  (.seq (.reg [⟨(some 9), .move (.tmp 1), none⟩,
    ⟨(some 4), .assign (.tmp 9), none⟩] [4])
  .ret)))
theorem spec_l1Least_k : fnOk Try.prog (fun _ => false) 72 = some (spec_l1Least_c.strip, 10, [.tmp 4]) := by kernel_rfl
/-- loop.example/g01062/spec.l1Most: number 73, params [0, 1] -/
def spec_l1Most_c : ACode := (.seq (.reg [⟨(some 4), .assign (.const (.int .i64 0)), none⟩] [0, 1])
  (.seq (.seq (.reg [⟨(some 5), .move (.tmp 0), none⟩,
    ⟨(some 6), .move (.tmp 1), none⟩,
    ⟨(some 7), .binOp .gtr 3 (.tmp 5) (.tmp 6) 3, none⟩] [0, 1, 7])
  (.cond (.tmp 7) (.seq (.reg [⟨(some 8), .move (.tmp 0), none⟩,
    ⟨(some 4), .assign (.tmp 8), none⟩] [4])
  .ret)
  .skip))
  (.seq (.reg [⟨(some 9), .move (.tmp 1), none⟩,
    ⟨(some 4), .assign (.tmp 9), none⟩] [4])
  .ret)))
theorem spec_l1Most_k : fnOk Try.prog (fun _ => false) 73 = some (spec_l1Most_c.strip, 10, [.tmp 4]) := by kernel_rfl
/-- head: [0, 1, 5] -/
def spec_l1Put_l0 : ACode := (.seq (.seq (.reg [⟨(some 6), .move (.tmp 5), none⟩,
    ⟨(some 7), .move (.tmp 0), none⟩,
    ⟨(some 8), .call ⟨.builtin .len, #[(.tmp 7)], #[34]⟩, none⟩,
    ⟨(some 9), .binOp .lss 3 (.tmp 6) (.tmp 8) 3, none⟩,
    ⟨(some 10), .move (.tmp 9), none⟩,
    ⟨(some 11), .move (.tmp 0), (some (some 10, true))⟩,
    ⟨(some 12), .move (.tmp 5), (some (some 10, true))⟩,
    ⟨(some 13), .indexAddr 34 (.tmp 11) (.tmp 12), (some (some 10, true))⟩,
    ⟨(some 14), .load 3 (.tmp 13), (some (some 10, true))⟩,
    ⟨(some 15), .move (.tmp 1), (some (some 10, true))⟩,
    ⟨(some 16), .binOp .lss 3 (.tmp 14) (.tmp 15) 3, (some (some 10, true))⟩,
    ⟨(some 17), .pick (.tmp 10) (.tmp 16) (.const (.bool false)), none⟩] [0, 1, 5, 17])
  (.cond (.tmp 17) .skip
  (.exit 0)))
  (.block 1 (.reg [⟨(some 18), .move (.tmp 5), none⟩,
    ⟨(some 19), .binOp .add 3 (.tmp 18) (.const (.int .i64 1)) 3, none⟩,
    ⟨(some 5), .assign (.tmp 19), none⟩] [0, 1, 5])))
/-- loop.example/g01062/spec.l1Put: number 74, params [0, 1] -/
def spec_l1Put_c : ACode := (.seq (.reg [⟨(some 4), .assign (.const (.slice none 0 0)), none⟩] [0, 1])
  (.seq (.reg [⟨(some 5), .assign (.const (.int .i64 0)), none⟩] [0, 1, 5])
  (.seq (.block 0 (.loop spec_l1Put_l0))
  (.seq (.seq (.reg [⟨(some 20), .move (.tmp 5), none⟩,
    ⟨(some 21), .move (.tmp 0), none⟩,
    ⟨(some 22), .call ⟨.builtin .len, #[(.tmp 21)], #[34]⟩, none⟩,
    ⟨(some 23), .binOp .lss 3 (.tmp 20) (.tmp 22) 3, none⟩,
    ⟨(some 24), .move (.tmp 23), none⟩,
    ⟨(some 25), .move (.tmp 0), (some (some 24, true))⟩,
    ⟨(some 26), .move (.tmp 5), (some (some 24, true))⟩,
    ⟨(some 27), .indexAddr 34 (.tmp 25) (.tmp 26), (some (some 24, true))⟩,
    ⟨(some 28), .load 3 (.tmp 27), (some (some 24, true))⟩,
    ⟨(some 29), .move (.tmp 1), (some (some 24, true))⟩,
    ⟨(some 30), .binOp .eql 3 (.tmp 28) (.tmp 29) 3, (some (some 24, true))⟩,
    ⟨(some 31), .pick (.tmp 24) (.tmp 30) (.const (.bool false)), none⟩] [0, 1, 5, 31])
  (.cond (.tmp 31) (.seq (.reg [⟨(some 32), .move (.tmp 0), none⟩,
    ⟨(some 4), .assign (.tmp 32), none⟩] [4])
  .ret)
  .skip))
  (.seq (.regF []
    [34, 35, 36, 33, 38, 39, 41, 42, 43] []
    [⟨(some 34), .move (.tmp 0), none⟩,
    ⟨(some 35), .move (.tmp 5), none⟩,
    ⟨(some 36), .slice 34 (.tmp 34) none (some (.tmp 35)) none, none⟩,
    ⟨(some 33), .buildSlice 34 0 #[], none⟩,
    ⟨(some 37), .call ⟨.builtin .append, #[(.tmp 33), (.tmp 36)], #[34, 34]⟩, none⟩,
    ⟨(some 38), .move (.tmp 1), none⟩,
    ⟨(some 39), .buildSlice 34 1 #[(0, (.tmp 38))], none⟩,
    ⟨(some 40), .call ⟨.builtin .append, #[(.tmp 37), (.tmp 39)], #[34, 34]⟩, none⟩,
    ⟨(some 41), .move (.tmp 0), none⟩,
    ⟨(some 42), .move (.tmp 5), none⟩,
    ⟨(some 43), .slice 34 (.tmp 41) (some (.tmp 42)) none none, none⟩,
    ⟨(some 44), .call ⟨.builtin .append, #[(.tmp 40), (.tmp 43)], #[34, 34]⟩, none⟩,
    ⟨(some 4), .assign (.tmp 44), none⟩] [4])
  .ret)))))
theorem spec_l1Put_k : fnOk Try.prog (fun _ => false) 74 = some (spec_l1Put_c.strip, 45, [.tmp 4]) := by kernel_rfl
/-- head: [0, 1, 9, 10, 11] -/
def slices_Compare___int_int__l0 : ACode := (.seq (.reg [⟨(some 12), .binOp .lss 3 (.tmp 11) (.tmp 10) 3, none⟩] [0, 1, 9, 10, 11, 12])
  (.seq (.cond (.tmp 12) .skip
  (.exit 0))
  (.seq (.block 1 (.seq (.reg [⟨(some 13), .move (.tmp 11), none⟩,
    ⟨(some 14), .indexAddr 34 (.tmp 9) (.tmp 11), none⟩,
    ⟨(some 15), .load 3 (.tmp 14), none⟩,
    ⟨(some 5), .assign (.tmp 13), none⟩,
    ⟨(some 6), .assign (.tmp 15), none⟩] [0, 1, 5, 6, 9, 10, 11])
  (.seq (.seq (.reg [⟨(some 16), .move (.tmp 5), none⟩,
    ⟨(some 17), .move (.tmp 1), none⟩,
    ⟨(some 18), .call ⟨.builtin .len, #[(.tmp 17)], #[34]⟩, none⟩,
    ⟨(some 19), .binOp .geq 3 (.tmp 16) (.tmp 18) 3, none⟩] [0, 1, 5, 6, 9, 10, 11, 19])
  (.cond (.tmp 19) (.seq (.reg [⟨(some 4), .assign (.const (.int .i64 1)), none⟩] [4])
  .ret)
  .skip))
  (.seq (.reg [⟨(some 20), .move (.tmp 1), none⟩,
    ⟨(some 21), .move (.tmp 5), none⟩,
    ⟨(some 22), .indexAddr 34 (.tmp 20) (.tmp 21), none⟩,
    ⟨(some 23), .load 3 (.tmp 22), none⟩,
    ⟨(some 7), .assign (.tmp 23), none⟩] [0, 1, 6, 7, 9, 10, 11])
  (.seq (.reg [⟨(some 24), .move (.tmp 6), none⟩,
    ⟨(some 25), .move (.tmp 7), none⟩,
    ⟨(some 26), .call ⟨.value (.func 93), #[(.tmp 24), (.tmp 25)], #[3, 3]⟩, none⟩,
    ⟨(some 8), .assign (.tmp 26), none⟩] [0, 1, 8, 9, 10, 11])
  (.seq (.reg [⟨(some 27), .move (.tmp 8), none⟩,
    ⟨(some 28), .binOp .neq 3 (.tmp 27) (.const (.int .i64 0)) 3, none⟩] [0, 1, 8, 9, 10, 11, 28])
  (.cond (.tmp 28) (.seq (.reg [⟨(some 29), .move (.tmp 8), none⟩,
    ⟨(some 4), .assign (.tmp 29), none⟩] [4])
  .ret)
  .skip)))))))
  (.reg [⟨(some 30), .binOp .add 3 (.tmp 11) (.const (.int .i64 1)) 3, none⟩,
    ⟨(some 11), .move (.tmp 30), none⟩] [0, 1, 9, 10, 11]))))
/-- slices.Compare[[]int,int]: number 78, params [0, 1] -/
def slices_Compare___int_int__c : ACode := (.seq (.reg [⟨(some 4), .assign (.const (.int .i64 0)), none⟩] [0, 1])
  (.seq (.seq (.reg [⟨(some 9), .move (.tmp 0), none⟩,
    ⟨(some 10), .call ⟨.builtin .len, #[(.tmp 9)], #[34]⟩, none⟩,
    ⟨(some 11), .move (.const (.int .i64 0)), none⟩] [0, 1, 9, 10, 11])
  (.block 0 (.loop slices_Compare___int_int__l0)))
  (.seq (.seq (.reg [⟨(some 31), .move (.tmp 0), none⟩,
    ⟨(some 32), .call ⟨.builtin .len, #[(.tmp 31)], #[34]⟩, none⟩,
    ⟨(some 33), .move (.tmp 1), none⟩,
    ⟨(some 34), .call ⟨.builtin .len, #[(.tmp 33)], #[34]⟩, none⟩,
    ⟨(some 35), .binOp .lss 3 (.tmp 32) (.tmp 34) 3, none⟩] [35])
  (.cond (.tmp 35) (.seq (.reg [⟨(some 4), .assign (.const (.int .i64 (-1))), none⟩] [4])
  .ret)
  .skip))
  (.seq (.reg [⟨(some 4), .assign (.const (.int .i64 0)), none⟩] [4])
  .ret))))
theorem slices_Compare___int_int__k : fnOk Try.prog (fun _ => false) 78 = some (slices_Compare___int_int__c.strip, 36, [.tmp 4]) := by kernel_rfl
/-- loop.example/g01062/laws.szIntS: number 82, params [0, 1] -/
def laws_szIntS_c : ACode := (.seq (.reg [⟨(some 4), .assign (.const (.int .i64 0)), none⟩] [0, 1])
  (.seq (.reg [⟨(some 5), .move (.tmp 1), none⟩,
    ⟨(some 6), .move (.tmp 0), none⟩,
    ⟨(some 7), .call ⟨.builtin .len, #[(.tmp 6)], #[34]⟩, none⟩,
    ⟨(some 8), .binOp .sub 3 (.tmp 5) (.tmp 7) 3, none⟩,
    ⟨(some 1), .assign (.tmp 8), none⟩] [1])
  (.seq (.seq (.reg [⟨(some 9), .move (.tmp 1), none⟩,
    ⟨(some 10), .binOp .lss 3 (.tmp 9) (.const (.int .i64 0)) 3, none⟩] [1, 10])
  (.cond (.tmp 10) (.seq (.reg [⟨(some 4), .assign (.const (.int .i64 (-1))), none⟩] [4])
  .ret)
  .skip))
  (.seq (.reg [⟨(some 11), .move (.tmp 1), none⟩,
    ⟨(some 4), .assign (.tmp 11), none⟩] [4])
  .ret))))
theorem laws_szIntS_k : fnOk Try.prog (fun _ => false) 82 = some (laws_szIntS_c.strip, 12, [.tmp 4]) := by kernel_rfl
/-- loop.example/g01062/spec.l13One: number 83, params [0] -/
def spec_l13One_c : ACode := (.seq (.reg [⟨(some 1), .box 63 (.tmp 0), none⟩,
    ⟨(some 2), .assign (.const (.bool false)), none⟩] [1])
  (.seq (.reg [⟨(some 3), .fieldAddr 63 (.tmp 1) 0, none⟩,
    ⟨(some 4), .load 3 (.tmp 3), none⟩,
    ⟨(some 5), .call ⟨.value (.func 89), #[(.tmp 4), (.const (.int .i64 1)), (.const (.int .i64 999))], #[3, 3, 3]⟩, none⟩,
    ⟨(some 6), .move (.tmp 5), none⟩,
    ⟨(some 7), .fieldAddr 63 (.tmp 1) 1, (some (some 6, true))⟩,
    ⟨(some 8), .load 3 (.tmp 7), (some (some 6, true))⟩,
    ⟨(some 9), .call ⟨.value (.func 89), #[(.tmp 8), (.const (.int .i64 1840)), (.const (.int .i64 2100))], #[3, 3, 3]⟩, (some (some 6, true))⟩,
    ⟨(some 10), .pick (.tmp 6) (.tmp 9) (.const (.bool false)), none⟩,
    ⟨(some 11), .move (.tmp 10), none⟩,
    ⟨(some 12), .fieldAddr 63 (.tmp 1) 2, (some (some 11, true))⟩,
    ⟨(some 13), .load 9 (.tmp 12), (some (some 11, true))⟩,
    ⟨(some 14), .call ⟨.value (.func 99), #[(.tmp 13)], #[9]⟩, (some (some 11, true))⟩,
    ⟨(some 15), .pick (.tmp 11) (.tmp 14) (.const (.bool false)), none⟩,
    ⟨(some 16), .move (.tmp 15), none⟩,
    ⟨(some 17), .fieldAddr 63 (.tmp 1) 3, (some (some 16, true))⟩,
    ⟨(some 18), .load 34 (.tmp 17), (some (some 16, true))⟩,
    ⟨(some 19), .call ⟨.builtin .len, #[(.tmp 18)], #[34]⟩, (some (some 16, true))⟩,
    ⟨(some 20), .binOp .leq 3 (.tmp 19) (.const (.int .i64 8)) 3, (some (some 16, true))⟩,
    ⟨(some 21), .pick (.tmp 16) (.tmp 20) (.const (.bool false)), none⟩,
    ⟨(some 22), .move (.tmp 21), none⟩,
    ⟨(some 23), .fieldAddr 63 (.tmp 1) 3, (some (some 22, true))⟩,
    ⟨(some 24), .load 34 (.tmp 23), (some (some 22, true))⟩,
    ⟨(some 25), .call ⟨.value (.func 100), #[(.tmp 24), (.const (.int .i64 1)), (.const (.int .i64 50))], #[34, 3, 3]⟩, (some (some 22, true))⟩,
    ⟨(some 26), .pick (.tmp 22) (.tmp 25) (.const (.bool false)), none⟩,
    ⟨(some 2), .assign (.tmp 26), none⟩] [2])
  .ret))
theorem spec_l13One_k : fnOk Try.prog (fun _ => false) 83 = some (spec_l13One_c.strip, 27, [.tmp 2]) := by kernel_rfl
/-- head: [0, 5, 6] -/
def impl_isWord_l0 : ACode := (.seq (.reg [⟨(some 7), .binOp .lss 3 (.tmp 6) (.tmp 5) 3, none⟩] [0, 5, 6, 7])
  (.seq (.cond (.tmp 7) .skip
  (.exit 0))
  (.seq (.block 1 (.seq (.reg [⟨(some 8), .move (.tmp 6), none⟩,
    ⟨(some 3), .assign (.tmp 8), none⟩] [0, 3, 5, 6])
  (.seq (.reg [⟨(some 9), .move (.tmp 0), none⟩,
    ⟨(some 10), .move (.tmp 3), none⟩,
    ⟨(some 11), .index 9 (.tmp 9) (.tmp 10), none⟩,
    ⟨(some 12), .binOp .lss 5 (.tmp 11) (.const (.int .u8 97)) 5, none⟩,
    ⟨(some 13), .move (.tmp 12), none⟩,
    ⟨(some 14), .move (.tmp 0), (some (some 13, false))⟩,
    ⟨(some 15), .move (.tmp 3), (some (some 13, false))⟩,
    ⟨(some 16), .index 9 (.tmp 14) (.tmp 15), (some (some 13, false))⟩,
    ⟨(some 17), .binOp .gtr 5 (.tmp 16) (.const (.int .u8 122)) 5, (some (some 13, false))⟩,
    ⟨(some 18), .pick (.tmp 13) (.const (.bool true)) (.tmp 17), none⟩] [0, 5, 6, 18])
  (.cond (.tmp 18) (.seq (.reg [⟨(some 2), .assign (.const (.bool false)), none⟩] [2])
  .ret)
  .skip))))
  (.reg [⟨(some 19), .binOp .add 3 (.tmp 6) (.const (.int .i64 1)) 3, none⟩,
    ⟨(some 6), .move (.tmp 19), none⟩] [0, 5, 6]))))
/-- loop.example/g01062/impl.isWord: number 84, params [0] -/
def impl_isWord_c : ACode := (.seq (.reg [⟨(some 2), .assign (.const (.bool false)), none⟩] [0])
  (.seq (.seq (.reg [⟨(some 4), .move (.tmp 0), none⟩,
    ⟨(some 5), .call ⟨.builtin .len, #[(.tmp 4)], #[9]⟩, none⟩,
    ⟨(some 6), .move (.const (.int .i64 0)), none⟩] [0, 5, 6])
  (.block 0 (.loop impl_isWord_l0)))
  (.seq (.reg [⟨(some 20), .move (.tmp 0), none⟩,
    ⟨(some 21), .call ⟨.builtin .len, #[(.tmp 20)], #[9]⟩, none⟩,
    ⟨(some 22), .call ⟨.value (.func 70), #[(.tmp 21), (.const (.int .i64 1)), (.const (.int .i64 10))], #[3, 3, 3]⟩, none⟩,
    ⟨(some 2), .assign (.tmp 22), none⟩] [2])
  .ret)))
theorem impl_isWord_k : fnOk Try.prog (fun _ => false) 84 = some (impl_isWord_c.strip, 23, [.tmp 2]) := by kernel_rfl
/-- head: [0, 3] -/
def impl_ascending_l0 : ACode := (.seq (.seq (.reg [⟨(some 4), .move (.tmp 3), none⟩,
    ⟨(some 5), .move (.tmp 0), none⟩,
    ⟨(some 6), .call ⟨.builtin .len, #[(.tmp 5)], #[34]⟩, none⟩,
    ⟨(some 7), .binOp .lss 3 (.tmp 4) (.tmp 6) 3, none⟩] [0, 3, 7])
  (.cond (.tmp 7) .skip
  (.exit 0)))
  (.seq (.block 1 (.seq (.regQ [⟨(some 10), .move (.tmp 0), none⟩,
    ⟨(some 11), .move (.tmp 3), none⟩,
    ⟨(some 12), .binOp .sub 3 (.tmp 11) (.const (.int .i64 1)) 3, none⟩,
    ⟨(some 13), .indexAddr 34 (.tmp 10) (.tmp 12), none⟩,
    ⟨(some 14), .load 3 (.tmp 13), none⟩,
    ⟨(some 15), .move (.tmp 0), none⟩,
    ⟨(some 16), .move (.tmp 3), none⟩,
    ⟨(some 17), .indexAddr 34 (.tmp 15) (.tmp 16), none⟩,
    ⟨(some 18), .load 3 (.tmp 17), none⟩,
    ⟨(some 19), .binOp .geq 3 (.tmp 14) (.tmp 18) 3, none⟩] [0, 3, 19])
  (.cond (.tmp 19) (.seq (.reg [⟨(some 2), .assign (.const (.bool false)), none⟩] [2])
  .ret)
  .skip)))
  (.reg [⟨(some 8), .move (.tmp 3), none⟩,
    ⟨(some 9), .binOp .add 3 (.tmp 8) (.const (.int .i64 1)) 3, none⟩,
    ⟨(some 3), .assign (.tmp 9), none⟩] [0, 3])))
/-- loop.example/g01062/impl.ascending: number 85, params [0] -/
def impl_ascending_c : ACode := (.seq (.reg [⟨(some 2), .assign (.const (.bool false)), none⟩] [0])
  (.seq (.seq (.reg [⟨(some 3), .assign (.const (.int .i64 1)), none⟩] [0, 3])
  (.block 0 (.loop impl_ascending_l0)))
  (.seq (.reg [⟨(some 2), .assign (.const (.bool true)), none⟩] [2])
  .ret)))
theorem impl_ascending_k : fnOk Try.prog (fun _ => false) 85 = some (impl_ascending_c.strip, 20, [.tmp 2]) := by kernel_rfl
/-- head: [0, 1, 7, 8] -/
def slices_IndexFunc___impl_Sighting_impl_Sighting__l0 : ACode := (.seq (.reg [⟨(some 9), .binOp .lss 3 (.tmp 8) (.tmp 7) 3, none⟩] [0, 1, 7, 8, 9])
  (.seq (.cond (.tmp 9) .skip
  (.exit 0))
  (.seq (.block 1 (.seq (.reg [⟨(some 10), .move (.tmp 8), none⟩,
    ⟨(some 5), .assign (.tmp 10), none⟩] [0, 1, 5, 7, 8])
  (.seq (.reg [⟨(some 11), .move (.tmp 1), none⟩,
    ⟨(some 12), .move (.tmp 0), none⟩,
    ⟨(some 13), .move (.tmp 5), none⟩,
    ⟨(some 14), .indexAddr 25 (.tmp 12) (.tmp 13), none⟩,
    ⟨(some 15), .load 63 (.tmp 14), none⟩,
    ⟨(some 16), .call ⟨.value (.tmp 11), #[(.tmp 15)], #[63]⟩, none⟩] [0, 1, 5, 7, 8, 16])
  (.cond (.tmp 16) (.seq (.reg [⟨(some 17), .move (.tmp 5), none⟩,
    ⟨(some 4), .assign (.tmp 17), none⟩] [4])
  .ret)
  .skip))))
  (.reg [⟨(some 18), .binOp .add 3 (.tmp 8) (.const (.int .i64 1)) 3, none⟩,
    ⟨(some 8), .move (.tmp 18), none⟩] [0, 1, 7, 8]))))
/-- slices.IndexFunc[[]loop.example/g01062/impl.Sighting,loop.example/g01062/impl.Sighting]: number 86, params [0, 1] -/
def slices_IndexFunc___impl_Sighting_impl_Sighting__c : ACode := (.seq (.reg [⟨(some 4), .assign (.const (.int .i64 0)), none⟩] [0, 1])
  (.seq (.seq (.reg [⟨(some 6), .move (.tmp 0), none⟩,
    ⟨(some 7), .call ⟨.builtin .len, #[(.tmp 6)], #[25]⟩, none⟩,
    ⟨(some 8), .move (.const (.int .i64 0)), none⟩] [0, 1, 7, 8])
  (.block 0 (.loop slices_IndexFunc___impl_Sighting_impl_Sighting__l0)))
  (.seq (.reg [⟨(some 4), .assign (.const (.int .i64 (-1))), none⟩] [4])
  .ret)))
theorem slices_IndexFunc___impl_Sighting_impl_Sighting__k : fnOk Try.prog (fun _ => false) 86 = some (slices_IndexFunc___impl_Sighting_impl_Sighting__c.strip, 19, [.tmp 4]) := by kernel_rfl
/-- loop.example/g01062/impl.sightingAt$1: number 87, params [0] -/
def impl_sightingAt_1_c : ACode := (.seq (.reg [⟨(some 2), .box 63 (.tmp 0), none⟩,
    ⟨(some 3), .assign (.const (.bool false)), none⟩] [1, 2])
  (.seq (.reg [⟨(some 4), .fieldAddr 63 (.tmp 2) 0, none⟩,
    ⟨(some 5), .load 3 (.tmp 4), none⟩,
    ⟨(some 6), .load 3 (.tmp 1), none⟩,
    ⟨(some 7), .binOp .eql 3 (.tmp 5) (.tmp 6) 3, none⟩,
    ⟨(some 3), .assign (.tmp 7), none⟩] [3])
  .ret))
theorem impl_sightingAt_1_k : fnOk Try.prog (fun _ => false) 87 = some (impl_sightingAt_1_c.strip, 8, [.tmp 3]) := by kernel_rfl
/-- head: [0, 1, 7, 8] -/
def slices_Index___int_int__l0 : ACode := (.seq (.reg [⟨(some 9), .binOp .lss 3 (.tmp 8) (.tmp 7) 3, none⟩] [0, 1, 7, 8, 9])
  (.seq (.cond (.tmp 9) .skip
  (.exit 0))
  (.seq (.block 1 (.seq (.reg [⟨(some 10), .move (.tmp 8), none⟩,
    ⟨(some 5), .assign (.tmp 10), none⟩] [0, 1, 5, 7, 8])
  (.seq (.reg [⟨(some 11), .move (.tmp 1), none⟩,
    ⟨(some 12), .move (.tmp 0), none⟩,
    ⟨(some 13), .move (.tmp 5), none⟩,
    ⟨(some 14), .indexAddr 34 (.tmp 12) (.tmp 13), none⟩,
    ⟨(some 15), .load 3 (.tmp 14), none⟩,
    ⟨(some 16), .binOp .eql 3 (.tmp 11) (.tmp 15) 3, none⟩] [0, 1, 5, 7, 8, 16])
  (.cond (.tmp 16) (.seq (.reg [⟨(some 17), .move (.tmp 5), none⟩,
    ⟨(some 4), .assign (.tmp 17), none⟩] [4])
  .ret)
  .skip))))
  (.reg [⟨(some 18), .binOp .add 3 (.tmp 8) (.const (.int .i64 1)) 3, none⟩,
    ⟨(some 8), .move (.tmp 18), none⟩] [0, 1, 7, 8]))))
/-- slices.Index[[]int,int]: number 88, params [0, 1] -/
def slices_Index___int_int__c : ACode := (.seq (.reg [⟨(some 4), .assign (.const (.int .i64 0)), none⟩] [0, 1])
  (.seq (.seq (.reg [⟨(some 6), .move (.tmp 0), none⟩,
    ⟨(some 7), .call ⟨.builtin .len, #[(.tmp 6)], #[34]⟩, none⟩,
    ⟨(some 8), .move (.const (.int .i64 0)), none⟩] [0, 1, 7, 8])
  (.block 0 (.loop slices_Index___int_int__l0)))
  (.seq (.reg [⟨(some 4), .assign (.const (.int .i64 (-1))), none⟩] [4])
  .ret)))
theorem slices_Index___int_int__k : fnOk Try.prog (fun _ => false) 88 = some (slices_Index___int_int__c.strip, 19, [.tmp 4]) := by kernel_rfl
/-- loop.example/g01062/spec.l1In: number 89, params [0, 1, 2] -/
def spec_l1In_c : ACode := (.seq (.reg [⟨(some 6), .assign (.const (.bool false)), none⟩] [0, 1, 2])
  (.seq (.reg [⟨(some 7), .move (.tmp 0), none⟩,
    ⟨(some 8), .move (.tmp 1), none⟩,
    ⟨(some 9), .binOp .geq 3 (.tmp 7) (.tmp 8) 3, none⟩,
    ⟨(some 10), .move (.tmp 9), none⟩,
    ⟨(some 11), .move (.tmp 0), (some (some 10, true))⟩,
    ⟨(some 12), .move (.tmp 2), (some (some 10, true))⟩,
    ⟨(some 13), .binOp .leq 3 (.tmp 11) (.tmp 12) 3, (some (some 10, true))⟩,
    ⟨(some 14), .pick (.tmp 10) (.tmp 13) (.const (.bool false)), none⟩,
    ⟨(some 6), .assign (.tmp 14), none⟩] [6])
  .ret))
theorem spec_l1In_k : fnOk Try.prog (fun _ => false) 89 = some (spec_l1In_c.strip, 15, [.tmp 6]) := by kernel_rfl
/-- cmp.Compare[int]: number 93, params [0, 1] -/
def cmp_Compare_int__c : ACode := (.seq (.reg [⟨(some 4), .assign (.const (.int .i64 0)), none⟩] [0, 1])
  (.seq (.reg [⟨(some 7), .move (.tmp 0), none⟩,
    ⟨(some 8), .call ⟨.value (.func 120), #[(.tmp 7)], #[3]⟩, none⟩,
    ⟨(some 5), .assign (.tmp 8), none⟩] [0, 1, 5])
  (.seq (.reg [⟨(some 9), .move (.tmp 1), none⟩,
    ⟨(some 10), .call ⟨.value (.func 120), #[(.tmp 9)], #[3]⟩, none⟩,
    ⟨(some 6), .assign (.tmp 10), none⟩] [0, 1, 5, 6])
  (.seq (.seq (.reg [⟨(some 11), .move (.tmp 5), none⟩] [0, 1, 6, 11])
  (.cond (.tmp 11) (.seq (.seq (.reg [⟨(some 12), .move (.tmp 6), none⟩] [12])
  (.cond (.tmp 12) (.seq (.reg [⟨(some 4), .assign (.const (.int .i64 0)), none⟩] [4])
  .ret)
  .skip))
  (.seq (.reg [⟨(some 4), .assign (.const (.int .i64 (-1))), none⟩] [4])
  .ret))
  .skip))
  (.seq (.seq (.reg [⟨(some 13), .move (.tmp 6), none⟩] [0, 1, 13])
  (.cond (.tmp 13) (.seq (.reg [⟨(some 4), .assign (.const (.int .i64 1)), none⟩] [4])
  .ret)
  .skip))
  (.seq (.seq (.reg [⟨(some 14), .move (.tmp 0), none⟩,
    ⟨(some 15), .move (.tmp 1), none⟩,
    ⟨(some 16), .binOp .lss 3 (.tmp 14) (.tmp 15) 3, none⟩] [0, 1, 16])
  (.cond (.tmp 16) (.seq (.reg [⟨(some 4), .assign (.const (.int .i64 (-1))), none⟩] [4])
  .ret)
  .skip))
  (.seq (.seq (.reg [⟨(some 17), .move (.tmp 0), none⟩,
    ⟨(some 18), .move (.tmp 1), none⟩,
    ⟨(some 19), .binOp .gtr 3 (.tmp 17) (.tmp 18) 3, none⟩] [19])
  (.cond (.tmp 19) (.seq (.reg [⟨(some 4), .assign (.const (.int .i64 1)), none⟩] [4])
  .ret)
  .skip))
  (.seq (.reg [⟨(some 4), .assign (.const (.int .i64 0)), none⟩] [4])
  .ret))))))))
theorem cmp_Compare_int__k : fnOk Try.prog (fun _ => false) 93 = some (cmp_Compare_int__c.strip, 20, [.tmp 4]) := by kernel_rfl
/-- head: [0, 3] -/
def spec_l2Word_l0 : ACode := (.seq (.seq (.reg [⟨(some 4), .move (.tmp 3), none⟩,
    ⟨(some 5), .move (.tmp 0), none⟩,
    ⟨(some 6), .call ⟨.builtin .len, #[(.tmp 5)], #[9]⟩, none⟩,
    ⟨(some 7), .binOp .lss 3 (.tmp 4) (.tmp 6) 3, none⟩] [0, 3, 7])
  (.cond (.tmp 7) .skip
  (.exit 0)))
  (.seq (.block 1 (.seq (.reg [⟨(some 10), .move (.tmp 0), none⟩,
    ⟨(some 11), .move (.tmp 3), none⟩,
    ⟨(some 12), .index 9 (.tmp 10) (.tmp 11), none⟩,
    ⟨(some 13), .binOp .lss 5 (.tmp 12) (.const (.int .u8 97)) 5, none⟩,
    ⟨(some 14), .move (.tmp 13), none⟩,
    ⟨(some 15), .move (.tmp 0), (some (some 14, false))⟩,
    ⟨(some 16), .move (.tmp 3), (some (some 14, false))⟩,
    ⟨(some 17), .index 9 (.tmp 15) (.tmp 16), (some (some 14, false))⟩,
    ⟨(some 18), .binOp .gtr 5 (.tmp 17) (.const (.int .u8 122)) 5, (some (some 14, false))⟩,
    ⟨(some 19), .pick (.tmp 14) (.const (.bool true)) (.tmp 18), none⟩] [0, 3, 19])
  (.cond (.tmp 19) (.seq (.reg [⟨(some 2), .assign (.const (.bool false)), none⟩] [2])
  .ret)
  .skip)))
  (.reg [⟨(some 8), .move (.tmp 3), none⟩,
    ⟨(some 9), .binOp .add 3 (.tmp 8) (.const (.int .i64 1)) 3, none⟩,
    ⟨(some 3), .assign (.tmp 9), none⟩] [0, 3])))
/-- loop.example/g01062/spec.l2Word: number 99, params [0] -/
def spec_l2Word_c : ACode := (.seq (.reg [⟨(some 2), .assign (.const (.bool false)), none⟩] [0])
  (.seq (.seq (.reg [⟨(some 3), .assign (.const (.int .i64 0)), none⟩] [0, 3])
  (.block 0 (.loop spec_l2Word_l0)))
  (.seq (.reg [⟨(some 20), .move (.tmp 0), none⟩,
    ⟨(some 21), .call ⟨.builtin .len, #[(.tmp 20)], #[9]⟩, none⟩,
    ⟨(some 22), .call ⟨.value (.func 89), #[(.tmp 21), (.const (.int .i64 1)), (.const (.int .i64 10))], #[3, 3, 3]⟩, none⟩,
    ⟨(some 2), .assign (.tmp 22), none⟩] [2])
  .ret)))
theorem spec_l2Word_k : fnOk Try.prog (fun _ => false) 99 = some (spec_l2Word_c.strip, 23, [.tmp 2]) := by kernel_rfl
/-- head: [0, 1, 2, 7] -/
def spec_l1Rising_l0 : ACode := (.seq (.seq (.reg [⟨(some 8), .move (.tmp 7), none⟩,
    ⟨(some 9), .move (.tmp 0), none⟩,
    ⟨(some 10), .call ⟨.builtin .len, #[(.tmp 9)], #[34]⟩, none⟩,
    ⟨(some 11), .binOp .lss 3 (.tmp 8) (.tmp 10) 3, none⟩] [0, 1, 2, 7, 11])
  (.cond (.tmp 11) .skip
  (.exit 0)))
  (.seq (.block 1 (.seq (.regQ [⟨(some 14), .move (.tmp 0), none⟩,
    ⟨(some 15), .move (.tmp 7), none⟩,
    ⟨(some 16), .indexAddr 34 (.tmp 14) (.tmp 15), none⟩,
    ⟨(some 17), .load 3 (.tmp 16), none⟩,
    ⟨(some 18), .move (.tmp 1), none⟩,
    ⟨(some 19), .move (.tmp 2), none⟩,
    ⟨(some 20), .call ⟨.value (.func 89), #[(.tmp 17), (.tmp 18), (.tmp 19)], #[3, 3, 3]⟩, none⟩,
    ⟨(some 21), .unOp .not 4 (.tmp 20), none⟩,
    ⟨(some 22), .move (.tmp 21), none⟩,
    ⟨(some 23), .move (.tmp 7), (some (some 22, false))⟩,
    ⟨(some 24), .binOp .gtr 3 (.tmp 23) (.const (.int .i64 0)) 3, (some (some 22, false))⟩,
    ⟨(some 25), .move (.tmp 24), (some (some 22, false))⟩,
    ⟨(some 26), .move (.tmp 0), (some (some 25, true))⟩,
    ⟨(some 27), .move (.tmp 7), (some (some 25, true))⟩,
    ⟨(some 28), .binOp .sub 3 (.tmp 27) (.const (.int .i64 1)) 3, (some (some 25, true))⟩,
    ⟨(some 29), .indexAddr 34 (.tmp 26) (.tmp 28), (some (some 25, true))⟩,
    ⟨(some 30), .load 3 (.tmp 29), (some (some 25, true))⟩,
    ⟨(some 31), .move (.tmp 0), (some (some 25, true))⟩,
    ⟨(some 32), .move (.tmp 7), (some (some 25, true))⟩,
    ⟨(some 33), .indexAddr 34 (.tmp 31) (.tmp 32), (some (some 25, true))⟩,
    ⟨(some 34), .load 3 (.tmp 33), (some (some 25, true))⟩,
    ⟨(some 35), .binOp .geq 3 (.tmp 30) (.tmp 34) 3, (some (some 25, true))⟩,
    ⟨(some 36), .pick (.tmp 25) (.tmp 35) (.const (.bool false)), (some (some 22, false))⟩,
    ⟨(some 37), .pick (.tmp 22) (.const (.bool true)) (.tmp 36), none⟩] [0, 1, 2, 7, 37])
  (.cond (.tmp 37) (.seq (.reg [⟨(some 6), .assign (.const (.bool false)), none⟩] [6])
  .ret)
  .skip)))
  (.reg [⟨(some 12), .move (.tmp 7), none⟩,
    ⟨(some 13), .binOp .add 3 (.tmp 12) (.const (.int .i64 1)) 3, none⟩,
    ⟨(some 7), .assign (.tmp 13), none⟩] [0, 1, 2, 7])))
/-- loop.example/g01062/spec.l1Rising: number 100, params [0, 1, 2] -/
def spec_l1Rising_c : ACode := (.seq (.reg [⟨(some 6), .assign (.const (.bool false)), none⟩] [0, 1, 2])
  (.seq (.seq (.reg [⟨(some 7), .assign (.const (.int .i64 0)), none⟩] [0, 1, 2, 7])
  (.block 0 (.loop spec_l1Rising_l0)))
  (.seq (.reg [⟨(some 6), .assign (.const (.bool true)), none⟩] [6])
  .ret)))
theorem spec_l1Rising_k : fnOk Try.prog (fun _ => false) 100 = some (spec_l1Rising_c.strip, 38, [.tmp 6]) := by kernel_rfl
/-- cmp.Less[int]: number 107, params [0, 1] -/
def cmp_Less_int__c : ACode := (.seq (.reg [⟨(some 4), .assign (.const (.bool false)), none⟩] [0, 1])
  (.seq (.reg [⟨(some 5), .move (.tmp 0), none⟩,
    ⟨(some 6), .call ⟨.value (.func 120), #[(.tmp 5)], #[3]⟩, none⟩,
    ⟨(some 7), .move (.tmp 6), none⟩,
    ⟨(some 8), .move (.tmp 1), (some (some 7, true))⟩,
    ⟨(some 9), .call ⟨.value (.func 120), #[(.tmp 8)], #[3]⟩, (some (some 7, true))⟩,
    ⟨(some 10), .unOp .not 4 (.tmp 9), (some (some 7, true))⟩,
    ⟨(some 11), .pick (.tmp 7) (.tmp 10) (.const (.bool false)), none⟩,
    ⟨(some 12), .move (.tmp 11), none⟩,
    ⟨(some 13), .move (.tmp 0), (some (some 12, false))⟩,
    ⟨(some 14), .move (.tmp 1), (some (some 12, false))⟩,
    ⟨(some 15), .binOp .lss 3 (.tmp 13) (.tmp 14) 3, (some (some 12, false))⟩,
    ⟨(some 16), .pick (.tmp 12) (.const (.bool true)) (.tmp 15), none⟩,
    ⟨(some 4), .assign (.tmp 16), none⟩] [4])
  .ret))
theorem cmp_Less_int__k : fnOk Try.prog (fun _ => false) 107 = some (cmp_Less_int__c.strip, 17, [.tmp 4]) := by kernel_rfl
/-- cmp.isNaN[int]: number 120, params [0] -/
def cmp_isNaN_int__c : ACode := (.seq (.reg [⟨(some 2), .assign (.const (.bool false)), none⟩] [0])
  (.seq (.reg [⟨(some 3), .move (.tmp 0), none⟩,
    ⟨(some 4), .move (.tmp 0), none⟩,
    ⟨(some 5), .binOp .neq 3 (.tmp 3) (.tmp 4) 3, none⟩,
    ⟨(some 2), .assign (.tmp 5), none⟩] [2])
  .ret))
theorem cmp_isNaN_int__k : fnOk Try.prog (fun _ => false) 120 = some (cmp_isNaN_int__c.strip, 6, [.tmp 2]) := by kernel_rfl
/-- slices.nextPowerOfTwo: number 125, params [0] -/
def slices_nextPowerOfTwo_c : ACode := (.seq (.reg [⟨(some 2), .assign (.const (.int .u64 0)), none⟩] [0])
  (.seq (.reg [⟨(some 3), .move (.tmp 0), none⟩,
    ⟨(some 4), .convert 3 91 (.tmp 3), none⟩,
    ⟨(some 5), .call ⟨.value (.func 91), #[(.tmp 4)], #[91]⟩, none⟩,
    ⟨(some 6), .binOp .shl 91 (.const (.int .u64 1)) (.tmp 5) 3, none⟩,
    ⟨(some 2), .assign (.tmp 6), none⟩] [2])
  .ret))
theorem slices_nextPowerOfTwo_k : fnOk Try.prog (fun _ => false) 125 = some (slices_nextPowerOfTwo_c.strip, 7, [.tmp 2]) := by kernel_rfl
/-- (*slices.xorshift).Next: number 126, params [0] -/
def __slices_xorshift__Next_c : ACode := (.seq (.reg [⟨(some 2), .assign (.const (.int .u64 0)), none⟩] [0])
  (.seq (.regT [⟨(some 3), .move (.tmp 0), none⟩,
    ⟨(some 4), .nilCheck (.tmp 3), none⟩,
    ⟨(some 5), .load 116 (.tmp 4), none⟩,
    ⟨(some 6), .move (.tmp 0), none⟩,
    ⟨(some 7), .nilCheck (.tmp 6), none⟩,
    ⟨(some 8), .load 116 (.tmp 7), none⟩,
    ⟨(some 9), .binOp .shl 116 (.tmp 8) (.const (.int .u64 13)) 91, none⟩,
    ⟨(some 10), .binOp .xor 116 (.tmp 5) (.tmp 9) 116, none⟩,
    ⟨(some 11), .nilCheck (.tmp 3), none⟩]
    [⟨none, .store 116 (.tmp 11) (.tmp 10), none⟩] [0])
  (.seq (.regT [⟨(some 12), .move (.tmp 0), none⟩,
    ⟨(some 13), .nilCheck (.tmp 12), none⟩,
    ⟨(some 14), .load 116 (.tmp 13), none⟩,
    ⟨(some 15), .move (.tmp 0), none⟩,
    ⟨(some 16), .nilCheck (.tmp 15), none⟩,
    ⟨(some 17), .load 116 (.tmp 16), none⟩,
    ⟨(some 18), .binOp .shr 116 (.tmp 17) (.const (.int .u64 7)) 91, none⟩,
    ⟨(some 19), .binOp .xor 116 (.tmp 14) (.tmp 18) 116, none⟩,
    ⟨(some 20), .nilCheck (.tmp 12), none⟩]
    [⟨none, .store 116 (.tmp 20) (.tmp 19), none⟩] [0])
  (.seq (.regT [⟨(some 21), .move (.tmp 0), none⟩,
    ⟨(some 22), .nilCheck (.tmp 21), none⟩,
    ⟨(some 23), .load 116 (.tmp 22), none⟩,
    ⟨(some 24), .move (.tmp 0), none⟩,
    ⟨(some 25), .nilCheck (.tmp 24), none⟩,
    ⟨(some 26), .load 116 (.tmp 25), none⟩,
    ⟨(some 27), .binOp .shl 116 (.tmp 26) (.const (.int .u64 17)) 91, none⟩,
    ⟨(some 28), .binOp .xor 116 (.tmp 23) (.tmp 27) 116, none⟩,
    ⟨(some 29), .nilCheck (.tmp 21), none⟩]
    [⟨none, .store 116 (.tmp 29) (.tmp 28), none⟩] [0])
  (.seq (.reg [⟨(some 30), .move (.tmp 0), none⟩,
    ⟨(some 31), .nilCheck (.tmp 30), none⟩,
    ⟨(some 32), .load 116 (.tmp 31), none⟩,
    ⟨(some 2), .assign (.tmp 32), none⟩] [2])
  .ret)))))
theorem __slices_xorshift__Next_k : fnOk Try.prog (fun _ => false) 126 = some (__slices_xorshift__Next_c.strip, 33, [.tmp 2]) := by kernel_rfl
end Go.Proofs.Ytnbjiigcldmgoaa
