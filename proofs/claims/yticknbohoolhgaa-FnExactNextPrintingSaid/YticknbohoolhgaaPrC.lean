/- Printed by a program of ours: the functions' abstract code and facts on their types. -/
import Derived.Test.YticknbohoolhgaaAbsP
import Derived.Test.YticknbohoolhgaaProg
import Derived.KernelRfl
set_option maxRecDepth 8000
namespace Go.Proofs.Yticknbohoolhgaa
open Go Go.RowKit
@[simp] theorem dk_3 : dK Try.prog 3 = some (.int .i64) := by kernel_rfl
@[simp] theorem ty_3 : tyK Try.prog 3 = some .cell := by kernel_rfl
@[simp] theorem zero_3 : zeroK Try.prog 3 = some [.int .i64 0] := by kernel_rfl
@[simp] theorem dk_4 : dK Try.prog 4 = some .bool := by kernel_rfl
@[simp] theorem ty_4 : tyK Try.prog 4 = some .cell := by kernel_rfl
@[simp] theorem zero_4 : zeroK Try.prog 4 = some [.bool false] := by kernel_rfl
@[simp] theorem dk_5 : dK Try.prog 5 = some (.int .u8) := by kernel_rfl
@[simp] theorem ty_5 : tyK Try.prog 5 = some .cell := by kernel_rfl
@[simp] theorem zero_5 : zeroK Try.prog 5 = some [.int .u8 0] := by kernel_rfl
@[simp] theorem sl_22 : slK Try.prog 22 = some (62, 5, 40) := by kernel_rfl
@[simp] theorem dk_22 : dK Try.prog 22 = some .slc := by kernel_rfl
@[simp] theorem ty_22 : tyK Try.prog 22 = some .cell := by kernel_rfl
@[simp] theorem zero_22 : zeroK Try.prog 22 = some [.nils] := by kernel_rfl
@[simp] theorem sl_25 : slK Try.prog 25 = some (56, 5, 40) := by kernel_rfl
@[simp] theorem dk_25 : dK Try.prog 25 = some .slc := by kernel_rfl
@[simp] theorem ty_25 : tyK Try.prog 25 = some .cell := by kernel_rfl
@[simp] theorem zero_25 : zeroK Try.prog 25 = some [.nils] := by kernel_rfl
@[simp] theorem sl_37 : slK Try.prog 37 = some (3, 1, 8) := by kernel_rfl
@[simp] theorem dk_37 : dK Try.prog 37 = some .slc := by kernel_rfl
@[simp] theorem ty_37 : tyK Try.prog 37 = some .cell := by kernel_rfl
@[simp] theorem zero_37 : zeroK Try.prog 37 = some [.nils] := by kernel_rfl
@[simp] theorem sl_50 : slK Try.prog 50 = some (5, 1, 1) := by kernel_rfl
@[simp] theorem dk_50 : dK Try.prog 50 = some (.bytes 5) := by kernel_rfl
@[simp] theorem ty_50 : tyK Try.prog 50 = some .cell := by kernel_rfl
@[simp] theorem zero_50 : zeroK Try.prog 50 = some [.nils] := by kernel_rfl
@[simp] theorem ty_56 : tyK Try.prog 56 = some (.obj 5) := by kernel_rfl
@[simp] theorem fld_56_0 : fldK Try.prog 56 0 = some 0 := by kernel_rfl
@[simp] theorem fld_56_1 : fldK Try.prog 56 1 = some 1 := by kernel_rfl
@[simp] theorem fld_56_2 : fldK Try.prog 56 2 = some 2 := by kernel_rfl
@[simp] theorem fld_56_3 : fldK Try.prog 56 3 = some 3 := by kernel_rfl
@[simp] theorem fld_56_4 : fldK Try.prog 56 4 = some 4 := by kernel_rfl
@[simp] theorem pl_56 : plK Try.prog 56 = some (some [(0, 1), (1, 1), (2, 1), (3, 1), (4, 1)]) := by kernel_rfl
@[simp] theorem zero_56 : zeroK Try.prog 56 = some [.int .i64 0, .int .i64 0, .int .i64 0, .int .i64 0, .int .i64 0] := by kernel_rfl
@[simp] theorem ty_62 : tyK Try.prog 62 = some (.obj 5) := by kernel_rfl
@[simp] theorem fld_62_0 : fldK Try.prog 62 0 = some 0 := by kernel_rfl
@[simp] theorem fld_62_1 : fldK Try.prog 62 1 = some 1 := by kernel_rfl
@[simp] theorem fld_62_2 : fldK Try.prog 62 2 = some 2 := by kernel_rfl
@[simp] theorem fld_62_3 : fldK Try.prog 62 3 = some 3 := by kernel_rfl
@[simp] theorem fld_62_4 : fldK Try.prog 62 4 = some 4 := by kernel_rfl
@[simp] theorem pl_62 : plK Try.prog 62 = some (some [(0, 1), (1, 1), (2, 1), (3, 1), (4, 1)]) := by kernel_rfl
@[simp] theorem zero_62 : zeroK Try.prog 62 = some [.int .i64 0, .int .i64 0, .int .i64 0, .int .i64 0, .int .i64 0] := by kernel_rfl
/-- loop.example/g01062/laws.FnExactArePrintings: number 3, params [0] -/
def laws_FnExactArePrintings_c : ACode := (.seq (.reg [⟨(some 2), .assign (.const (.bool false)), none⟩] [0])
  (.seq (.reg [⟨(some 3), .assign (.const (.int .i64 1048576)), none⟩] [0, 3])
  (.seq (.reg [⟨(some 7), .move (.tmp 0), none⟩,
    ⟨(some 8), .move (.tmp 3), none⟩,
    ⟨(some 9), .call ⟨.value (.func 15), #[(.tmp 7), (.tmp 8)], #[22, 3]⟩, none⟩,
    ⟨(some 3), .assign (.tmp 9), none⟩] [0, 3])
  (.seq (.seq (.reg [⟨(some 10), .move (.tmp 3), none⟩,
    ⟨(some 11), .binOp .lss 3 (.tmp 10) (.const (.int .i64 0)) 3, none⟩] [0, 11])
  (.cond (.tmp 11) (.seq (.reg [⟨(some 2), .assign (.const (.bool true)), none⟩] [2])
  .ret)
  .skip))
  (.seq (.reg [⟨(some 12), .move (.tmp 0), none⟩,
    ⟨(some 13), .call ⟨.value (.func 17), #[(.tmp 12)], #[22]⟩, none⟩,
    ⟨(some 14), .call ⟨.value (.func 16), #[(.tmp 13)], #[25]⟩, none⟩,
    ⟨(some 4), .assign (.tmp 14), none⟩] [0, 4])
  (.seq (.reg [⟨(some 15), .move (.tmp 0), none⟩,
    ⟨(some 16), .call ⟨.value (.func 17), #[(.tmp 15)], #[22]⟩, none⟩,
    ⟨(some 5), .assign (.tmp 16), none⟩] [0, 4, 5])
  (.seq (.reg [⟨(some 17), .move (.tmp 5), none⟩,
    ⟨(some 18), .call ⟨.value (.func 18), #[(.tmp 17)], #[25]⟩, none⟩,
    ⟨(some 6), .assign (.tmp 18), none⟩] [0, 4, 5, 6])
  (.seq (.seq (.reg [⟨(some 19), .move (.tmp 6), none⟩,
    ⟨(some 20), .move (.tmp 4), none⟩,
    ⟨(some 21), .binOp .neq 4 (.tmp 19) (.tmp 20) 4, none⟩] [0, 5, 21])
  (.cond (.tmp 21) (.seq (.reg [⟨(some 2), .assign (.const (.bool false)), none⟩] [2])
  .ret)
  .skip))
  (.seq (.seq (.reg [⟨(some 22), .move (.tmp 5), none⟩,
    ⟨(some 23), .move (.tmp 0), none⟩,
    ⟨(some 24), .call ⟨.value (.func 17), #[(.tmp 23)], #[22]⟩, none⟩,
    ⟨(some 25), .call ⟨.value (.func 19), #[(.tmp 22), (.tmp 24)], #[25, 25]⟩, none⟩,
    ⟨(some 26), .unOp .not 4 (.tmp 25), none⟩] [26])
  (.cond (.tmp 26) (.seq (.reg [⟨(some 2), .assign (.const (.bool false)), none⟩] [2])
  .ret)
  .skip))
  (.seq (.reg [⟨(some 2), .assign (.const (.bool true)), none⟩] [2])
  .ret))))))))))
theorem laws_FnExactArePrintings_k : fnOk Try.prog 3 = some (laws_FnExactArePrintings_c.strip, 27, [.tmp 2]) := by kernel_rfl
/-- loop.example/g01062/laws.FnExactLongestPause: number 4, params [0] -/
def laws_FnExactLongestPause_c : ACode := (.seq (.reg [⟨(some 2), .assign (.const (.bool false)), none⟩] [0])
  (.seq (.reg [⟨(some 3), .assign (.const (.int .i64 1048576)), none⟩] [0, 3])
  (.seq (.reg [⟨(some 11), .move (.tmp 0), none⟩,
    ⟨(some 12), .move (.tmp 3), none⟩,
    ⟨(some 13), .call ⟨.value (.func 15), #[(.tmp 11), (.tmp 12)], #[22, 3]⟩, none⟩,
    ⟨(some 3), .assign (.tmp 13), none⟩] [0, 3])
  (.seq (.seq (.reg [⟨(some 14), .move (.tmp 3), none⟩,
    ⟨(some 15), .binOp .lss 3 (.tmp 14) (.const (.int .i64 0)) 3, none⟩] [0, 15])
  (.cond (.tmp 15) (.seq (.reg [⟨(some 2), .assign (.const (.bool true)), none⟩] [2])
  .ret)
  .skip))
  (.seq (.reg [⟨(some 17), .move (.tmp 0), none⟩,
    ⟨(some 18), .call ⟨.value (.func 17), #[(.tmp 17)], #[22]⟩, none⟩,
    ⟨(some 19), .call ⟨.value (.func 20), #[(.tmp 18)], #[25]⟩, none⟩,
    ⟨(some 16), .move (.tmp 19), none⟩,
    ⟨(some 20), .extract (.tmp 16) 0, none⟩,
    ⟨(some 21), .extract (.tmp 16) 1, none⟩,
    ⟨(some 22), .extract (.tmp 16) 2, none⟩,
    ⟨(some 4), .assign (.tmp 20), none⟩,
    ⟨(some 5), .assign (.tmp 21), none⟩,
    ⟨(some 6), .assign (.tmp 22), none⟩] [0, 4, 5, 6])
  (.seq (.reg [⟨(some 23), .move (.tmp 0), none⟩,
    ⟨(some 24), .call ⟨.value (.func 17), #[(.tmp 23)], #[22]⟩, none⟩,
    ⟨(some 7), .assign (.tmp 24), none⟩] [0, 4, 5, 6, 7])
  (.seq (.reg [⟨(some 26), .move (.tmp 7), none⟩,
    ⟨(some 27), .call ⟨.value (.func 21), #[(.tmp 26)], #[25]⟩, none⟩,
    ⟨(some 25), .move (.tmp 27), none⟩,
    ⟨(some 28), .extract (.tmp 25) 0, none⟩,
    ⟨(some 29), .extract (.tmp 25) 1, none⟩,
    ⟨(some 30), .extract (.tmp 25) 2, none⟩,
    ⟨(some 8), .assign (.tmp 28), none⟩,
    ⟨(some 9), .assign (.tmp 29), none⟩,
    ⟨(some 10), .assign (.tmp 30), none⟩] [0, 4, 5, 6, 7, 8, 9, 10])
  (.seq (.seq (.reg [⟨(some 31), .move (.tmp 8), none⟩,
    ⟨(some 32), .move (.tmp 4), none⟩,
    ⟨(some 33), .binOp .neq 3 (.tmp 31) (.tmp 32) 3, none⟩,
    ⟨(some 34), .move (.tmp 33), none⟩,
    ⟨(some 35), .move (.tmp 9), (some (some 34, false))⟩,
    ⟨(some 36), .move (.tmp 5), (some (some 34, false))⟩,
    ⟨(some 37), .binOp .neq 3 (.tmp 35) (.tmp 36) 3, (some (some 34, false))⟩,
    ⟨(some 38), .pick (.tmp 34) (.const (.bool true)) (.tmp 37), none⟩,
    ⟨(some 39), .move (.tmp 38), none⟩,
    ⟨(some 40), .move (.tmp 10), (some (some 39, false))⟩,
    ⟨(some 41), .move (.tmp 6), (some (some 39, false))⟩,
    ⟨(some 42), .binOp .neq 4 (.tmp 40) (.tmp 41) 4, (some (some 39, false))⟩,
    ⟨(some 43), .pick (.tmp 39) (.const (.bool true)) (.tmp 42), none⟩] [0, 7, 43])
  (.cond (.tmp 43) (.seq (.reg [⟨(some 2), .assign (.const (.bool false)), none⟩] [2])
  .ret)
  .skip))
  (.seq (.seq (.reg [⟨(some 44), .move (.tmp 7), none⟩,
    ⟨(some 45), .move (.tmp 0), none⟩,
    ⟨(some 46), .call ⟨.value (.func 17), #[(.tmp 45)], #[22]⟩, none⟩,
    ⟨(some 47), .call ⟨.value (.func 19), #[(.tmp 44), (.tmp 46)], #[25, 25]⟩, none⟩,
    ⟨(some 48), .unOp .not 4 (.tmp 47), none⟩] [48])
  (.cond (.tmp 48) (.seq (.reg [⟨(some 2), .assign (.const (.bool false)), none⟩] [2])
  .ret)
  .skip))
  (.seq (.reg [⟨(some 2), .assign (.const (.bool true)), none⟩] [2])
  .ret))))))))))
theorem laws_FnExactLongestPause_k : fnOk Try.prog 4 = some (laws_FnExactLongestPause_c.strip, 49, [.tmp 2]) := by kernel_rfl
/-- loop.example/g01062/laws.FnExactRarestPrinting: number 5, params [0] -/
def laws_FnExactRarestPrinting_c : ACode := (.seq (.reg [⟨(some 2), .assign (.const (.bool false)), none⟩] [0])
  (.seq (.reg [⟨(some 3), .assign (.const (.int .i64 1048576)), none⟩] [0, 3])
  (.seq (.reg [⟨(some 9), .move (.tmp 0), none⟩,
    ⟨(some 10), .move (.tmp 3), none⟩,
    ⟨(some 11), .call ⟨.value (.func 15), #[(.tmp 9), (.tmp 10)], #[22, 3]⟩, none⟩,
    ⟨(some 3), .assign (.tmp 11), none⟩] [0, 3])
  (.seq (.seq (.reg [⟨(some 12), .move (.tmp 3), none⟩,
    ⟨(some 13), .binOp .lss 3 (.tmp 12) (.const (.int .i64 0)) 3, none⟩] [0, 13])
  (.cond (.tmp 13) (.seq (.reg [⟨(some 2), .assign (.const (.bool true)), none⟩] [2])
  .ret)
  .skip))
  (.seq (.reg [⟨(some 15), .move (.tmp 0), none⟩,
    ⟨(some 16), .call ⟨.value (.func 17), #[(.tmp 15)], #[22]⟩, none⟩,
    ⟨(some 17), .call ⟨.value (.func 22), #[(.tmp 16)], #[25]⟩, none⟩,
    ⟨(some 14), .move (.tmp 17), none⟩,
    ⟨(some 18), .extract (.tmp 14) 0, none⟩,
    ⟨(some 19), .extract (.tmp 14) 1, none⟩,
    ⟨(some 4), .assign (.tmp 18), none⟩,
    ⟨(some 5), .assign (.tmp 19), none⟩] [0, 4, 5])
  (.seq (.reg [⟨(some 20), .move (.tmp 0), none⟩,
    ⟨(some 21), .call ⟨.value (.func 17), #[(.tmp 20)], #[22]⟩, none⟩,
    ⟨(some 6), .assign (.tmp 21), none⟩] [0, 4, 5, 6])
  (.seq (.reg [⟨(some 23), .move (.tmp 6), none⟩,
    ⟨(some 24), .call ⟨.value (.func 23), #[(.tmp 23)], #[25]⟩, none⟩,
    ⟨(some 22), .move (.tmp 24), none⟩,
    ⟨(some 25), .extract (.tmp 22) 0, none⟩,
    ⟨(some 26), .extract (.tmp 22) 1, none⟩,
    ⟨(some 7), .assign (.tmp 25), none⟩,
    ⟨(some 8), .assign (.tmp 26), none⟩] [0, 4, 5, 6, 7, 8])
  (.seq (.seq (.reg [⟨(some 27), .move (.tmp 7), none⟩,
    ⟨(some 28), .move (.tmp 4), none⟩,
    ⟨(some 29), .binOp .neq 3 (.tmp 27) (.tmp 28) 3, none⟩,
    ⟨(some 30), .move (.tmp 29), none⟩,
    ⟨(some 31), .move (.tmp 8), (some (some 30, false))⟩,
    ⟨(some 32), .move (.tmp 5), (some (some 30, false))⟩,
    ⟨(some 33), .binOp .neq 4 (.tmp 31) (.tmp 32) 4, (some (some 30, false))⟩,
    ⟨(some 34), .pick (.tmp 30) (.const (.bool true)) (.tmp 33), none⟩] [0, 6, 34])
  (.cond (.tmp 34) (.seq (.reg [⟨(some 2), .assign (.const (.bool false)), none⟩] [2])
  .ret)
  .skip))
  (.seq (.seq (.reg [⟨(some 35), .move (.tmp 6), none⟩,
    ⟨(some 36), .move (.tmp 0), none⟩,
    ⟨(some 37), .call ⟨.value (.func 17), #[(.tmp 36)], #[22]⟩, none⟩,
    ⟨(some 38), .call ⟨.value (.func 19), #[(.tmp 35), (.tmp 37)], #[25, 25]⟩, none⟩,
    ⟨(some 39), .unOp .not 4 (.tmp 38), none⟩] [39])
  (.cond (.tmp 39) (.seq (.reg [⟨(some 2), .assign (.const (.bool false)), none⟩] [2])
  .ret)
  .skip))
  (.seq (.reg [⟨(some 2), .assign (.const (.bool true)), none⟩] [2])
  .ret))))))))))
theorem laws_FnExactRarestPrinting_k : fnOk Try.prog 5 = some (laws_FnExactRarestPrinting_c.strip, 40, [.tmp 2]) := by kernel_rfl
/-- loop.example/g01062/laws.FnExactStampsUntil: number 6, params [0, 1, 2] -/
def laws_FnExactStampsUntil_c : ACode := (.seq (.reg [⟨(some 6), .assign (.const (.bool false)), none⟩] [0, 1, 2])
  (.seq (.reg [⟨(some 7), .assign (.const (.int .i64 1048576)), none⟩] [0, 1, 2, 7])
  (.seq (.reg [⟨(some 13), .move (.tmp 0), none⟩,
    ⟨(some 14), .move (.tmp 7), none⟩,
    ⟨(some 15), .call ⟨.value (.func 15), #[(.tmp 13), (.tmp 14)], #[22, 3]⟩, none⟩,
    ⟨(some 7), .assign (.tmp 15), none⟩] [0, 1, 2, 7])
  (.seq (.seq (.reg [⟨(some 16), .move (.tmp 7), none⟩,
    ⟨(some 17), .binOp .lss 3 (.tmp 16) (.const (.int .i64 0)) 3, none⟩] [0, 1, 2, 17])
  (.cond (.tmp 17) (.seq (.reg [⟨(some 6), .assign (.const (.bool true)), none⟩] [6])
  .ret)
  .skip))
  (.seq (.reg [⟨(some 19), .move (.tmp 0), none⟩,
    ⟨(some 20), .call ⟨.value (.func 17), #[(.tmp 19)], #[22]⟩, none⟩,
    ⟨(some 21), .move (.tmp 1), none⟩,
    ⟨(some 22), .move (.tmp 2), none⟩,
    ⟨(some 23), .call ⟨.value (.func 24), #[(.tmp 20), (.tmp 21), (.tmp 22)], #[25, 3, 3]⟩, none⟩,
    ⟨(some 18), .move (.tmp 23), none⟩,
    ⟨(some 24), .extract (.tmp 18) 0, none⟩,
    ⟨(some 25), .extract (.tmp 18) 1, none⟩,
    ⟨(some 8), .assign (.tmp 24), none⟩,
    ⟨(some 9), .assign (.tmp 25), none⟩] [0, 1, 2, 8, 9])
  (.seq (.reg [⟨(some 26), .move (.tmp 0), none⟩,
    ⟨(some 27), .call ⟨.value (.func 17), #[(.tmp 26)], #[22]⟩, none⟩,
    ⟨(some 10), .assign (.tmp 27), none⟩] [0, 1, 2, 8, 9, 10])
  (.seq (.reg [⟨(some 29), .move (.tmp 10), none⟩,
    ⟨(some 30), .move (.tmp 1), none⟩,
    ⟨(some 31), .move (.tmp 2), none⟩,
    ⟨(some 32), .call ⟨.value (.func 25), #[(.tmp 29), (.tmp 30), (.tmp 31)], #[25, 3, 3]⟩, none⟩,
    ⟨(some 28), .move (.tmp 32), none⟩,
    ⟨(some 33), .extract (.tmp 28) 0, none⟩,
    ⟨(some 34), .extract (.tmp 28) 1, none⟩,
    ⟨(some 11), .assign (.tmp 33), none⟩,
    ⟨(some 12), .assign (.tmp 34), none⟩] [0, 8, 9, 10, 11, 12])
  (.seq (.seq (.reg [⟨(some 35), .move (.tmp 11), none⟩,
    ⟨(some 36), .move (.tmp 8), none⟩,
    ⟨(some 37), .binOp .neq 3 (.tmp 35) (.tmp 36) 3, none⟩,
    ⟨(some 38), .move (.tmp 37), none⟩,
    ⟨(some 39), .move (.tmp 12), (some (some 38, false))⟩,
    ⟨(some 40), .move (.tmp 9), (some (some 38, false))⟩,
    ⟨(some 41), .binOp .neq 4 (.tmp 39) (.tmp 40) 4, (some (some 38, false))⟩,
    ⟨(some 42), .pick (.tmp 38) (.const (.bool true)) (.tmp 41), none⟩] [0, 10, 42])
  (.cond (.tmp 42) (.seq (.reg [⟨(some 6), .assign (.const (.bool false)), none⟩] [6])
  .ret)
  .skip))
  (.seq (.seq (.reg [⟨(some 43), .move (.tmp 10), none⟩,
    ⟨(some 44), .move (.tmp 0), none⟩,
    ⟨(some 45), .call ⟨.value (.func 17), #[(.tmp 44)], #[22]⟩, none⟩,
    ⟨(some 46), .call ⟨.value (.func 19), #[(.tmp 43), (.tmp 45)], #[25, 25]⟩, none⟩,
    ⟨(some 47), .unOp .not 4 (.tmp 46), none⟩] [47])
  (.cond (.tmp 47) (.seq (.reg [⟨(some 6), .assign (.const (.bool false)), none⟩] [6])
  .ret)
  .skip))
  (.seq (.reg [⟨(some 6), .assign (.const (.bool true)), none⟩] [6])
  .ret))))))))))
theorem laws_FnExactStampsUntil_k : fnOk Try.prog 6 = some (laws_FnExactStampsUntil_c.strip, 48, [.tmp 6]) := by kernel_rfl
/-- loop.example/g01062/laws.FnExactEarliestUse: number 7, params [0, 1] -/
def laws_FnExactEarliestUse_c : ACode := (.seq (.reg [⟨(some 4), .assign (.const (.bool false)), none⟩] [0, 1])
  (.seq (.reg [⟨(some 5), .assign (.const (.int .i64 1048576)), none⟩] [0, 1, 5])
  (.seq (.reg [⟨(some 11), .move (.tmp 0), none⟩,
    ⟨(some 12), .move (.tmp 5), none⟩,
    ⟨(some 13), .call ⟨.value (.func 15), #[(.tmp 11), (.tmp 12)], #[22, 3]⟩, none⟩,
    ⟨(some 5), .assign (.tmp 13), none⟩] [0, 1, 5])
  (.seq (.seq (.reg [⟨(some 14), .move (.tmp 5), none⟩,
    ⟨(some 15), .binOp .lss 3 (.tmp 14) (.const (.int .i64 0)) 3, none⟩] [0, 1, 15])
  (.cond (.tmp 15) (.seq (.reg [⟨(some 4), .assign (.const (.bool true)), none⟩] [4])
  .ret)
  .skip))
  (.seq (.reg [⟨(some 17), .move (.tmp 0), none⟩,
    ⟨(some 18), .call ⟨.value (.func 17), #[(.tmp 17)], #[22]⟩, none⟩,
    ⟨(some 19), .move (.tmp 1), none⟩,
    ⟨(some 20), .call ⟨.value (.func 26), #[(.tmp 18), (.tmp 19)], #[25, 3]⟩, none⟩,
    ⟨(some 16), .move (.tmp 20), none⟩,
    ⟨(some 21), .extract (.tmp 16) 0, none⟩,
    ⟨(some 22), .extract (.tmp 16) 1, none⟩,
    ⟨(some 6), .assign (.tmp 21), none⟩,
    ⟨(some 7), .assign (.tmp 22), none⟩] [0, 1, 6, 7])
  (.seq (.reg [⟨(some 23), .move (.tmp 0), none⟩,
    ⟨(some 24), .call ⟨.value (.func 17), #[(.tmp 23)], #[22]⟩, none⟩,
    ⟨(some 8), .assign (.tmp 24), none⟩] [0, 1, 6, 7, 8])
  (.seq (.reg [⟨(some 26), .move (.tmp 8), none⟩,
    ⟨(some 27), .move (.tmp 1), none⟩,
    ⟨(some 28), .call ⟨.value (.func 27), #[(.tmp 26), (.tmp 27)], #[25, 3]⟩, none⟩,
    ⟨(some 25), .move (.tmp 28), none⟩,
    ⟨(some 29), .extract (.tmp 25) 0, none⟩,
    ⟨(some 30), .extract (.tmp 25) 1, none⟩,
    ⟨(some 9), .assign (.tmp 29), none⟩,
    ⟨(some 10), .assign (.tmp 30), none⟩] [0, 6, 7, 8, 9, 10])
  (.seq (.seq (.reg [⟨(some 31), .move (.tmp 9), none⟩,
    ⟨(some 32), .move (.tmp 6), none⟩,
    ⟨(some 33), .binOp .neq 3 (.tmp 31) (.tmp 32) 3, none⟩,
    ⟨(some 34), .move (.tmp 33), none⟩,
    ⟨(some 35), .move (.tmp 10), (some (some 34, false))⟩,
    ⟨(some 36), .move (.tmp 7), (some (some 34, false))⟩,
    ⟨(some 37), .binOp .neq 4 (.tmp 35) (.tmp 36) 4, (some (some 34, false))⟩,
    ⟨(some 38), .pick (.tmp 34) (.const (.bool true)) (.tmp 37), none⟩] [0, 8, 38])
  (.cond (.tmp 38) (.seq (.reg [⟨(some 4), .assign (.const (.bool false)), none⟩] [4])
  .ret)
  .skip))
  (.seq (.seq (.reg [⟨(some 39), .move (.tmp 8), none⟩,
    ⟨(some 40), .move (.tmp 0), none⟩,
    ⟨(some 41), .call ⟨.value (.func 17), #[(.tmp 40)], #[22]⟩, none⟩,
    ⟨(some 42), .call ⟨.value (.func 19), #[(.tmp 39), (.tmp 41)], #[25, 25]⟩, none⟩,
    ⟨(some 43), .unOp .not 4 (.tmp 42), none⟩] [43])
  (.cond (.tmp 43) (.seq (.reg [⟨(some 4), .assign (.const (.bool false)), none⟩] [4])
  .ret)
  .skip))
  (.seq (.reg [⟨(some 4), .assign (.const (.bool true)), none⟩] [4])
  .ret))))))))))
theorem laws_FnExactEarliestUse_k : fnOk Try.prog 7 = some (laws_FnExactEarliestUse_c.strip, 44, [.tmp 4]) := by kernel_rfl
/-- loop.example/g01062/laws.FnExactSheetsBy: number 8, params [0, 1] -/
def laws_FnExactSheetsBy_c : ACode := (.seq (.reg [⟨(some 4), .assign (.const (.bool false)), none⟩] [0, 1])
  (.seq (.reg [⟨(some 5), .assign (.const (.int .i64 1048576)), none⟩] [0, 1, 5])
  (.seq (.reg [⟨(some 11), .move (.tmp 0), none⟩,
    ⟨(some 12), .move (.tmp 5), none⟩,
    ⟨(some 13), .call ⟨.value (.func 15), #[(.tmp 11), (.tmp 12)], #[22, 3]⟩, none⟩,
    ⟨(some 5), .assign (.tmp 13), none⟩] [0, 1, 5])
  (.seq (.seq (.reg [⟨(some 14), .move (.tmp 5), none⟩,
    ⟨(some 15), .binOp .lss 3 (.tmp 14) (.const (.int .i64 0)) 3, none⟩] [0, 1, 15])
  (.cond (.tmp 15) (.seq (.reg [⟨(some 4), .assign (.const (.bool true)), none⟩] [4])
  .ret)
  .skip))
  (.seq (.reg [⟨(some 17), .move (.tmp 0), none⟩,
    ⟨(some 18), .call ⟨.value (.func 17), #[(.tmp 17)], #[22]⟩, none⟩,
    ⟨(some 19), .move (.tmp 1), none⟩,
    ⟨(some 20), .call ⟨.value (.func 28), #[(.tmp 18), (.tmp 19)], #[25, 3]⟩, none⟩,
    ⟨(some 16), .move (.tmp 20), none⟩,
    ⟨(some 21), .extract (.tmp 16) 0, none⟩,
    ⟨(some 22), .extract (.tmp 16) 1, none⟩,
    ⟨(some 6), .assign (.tmp 21), none⟩,
    ⟨(some 7), .assign (.tmp 22), none⟩] [0, 1, 6, 7])
  (.seq (.reg [⟨(some 23), .move (.tmp 0), none⟩,
    ⟨(some 24), .call ⟨.value (.func 17), #[(.tmp 23)], #[22]⟩, none⟩,
    ⟨(some 8), .assign (.tmp 24), none⟩] [0, 1, 6, 7, 8])
  (.seq (.reg [⟨(some 26), .move (.tmp 8), none⟩,
    ⟨(some 27), .move (.tmp 1), none⟩,
    ⟨(some 28), .call ⟨.value (.func 29), #[(.tmp 26), (.tmp 27)], #[25, 3]⟩, none⟩,
    ⟨(some 25), .move (.tmp 28), none⟩,
    ⟨(some 29), .extract (.tmp 25) 0, none⟩,
    ⟨(some 30), .extract (.tmp 25) 1, none⟩,
    ⟨(some 9), .assign (.tmp 29), none⟩,
    ⟨(some 10), .assign (.tmp 30), none⟩] [0, 6, 7, 8, 9, 10])
  (.seq (.seq (.reg [⟨(some 31), .move (.tmp 9), none⟩,
    ⟨(some 32), .move (.tmp 6), none⟩,
    ⟨(some 33), .binOp .neq 3 (.tmp 31) (.tmp 32) 3, none⟩,
    ⟨(some 34), .move (.tmp 33), none⟩,
    ⟨(some 35), .move (.tmp 10), (some (some 34, false))⟩,
    ⟨(some 36), .move (.tmp 7), (some (some 34, false))⟩,
    ⟨(some 37), .binOp .neq 4 (.tmp 35) (.tmp 36) 4, (some (some 34, false))⟩,
    ⟨(some 38), .pick (.tmp 34) (.const (.bool true)) (.tmp 37), none⟩] [0, 8, 38])
  (.cond (.tmp 38) (.seq (.reg [⟨(some 4), .assign (.const (.bool false)), none⟩] [4])
  .ret)
  .skip))
  (.seq (.seq (.reg [⟨(some 39), .move (.tmp 8), none⟩,
    ⟨(some 40), .move (.tmp 0), none⟩,
    ⟨(some 41), .call ⟨.value (.func 17), #[(.tmp 40)], #[22]⟩, none⟩,
    ⟨(some 42), .call ⟨.value (.func 19), #[(.tmp 39), (.tmp 41)], #[25, 25]⟩, none⟩,
    ⟨(some 43), .unOp .not 4 (.tmp 42), none⟩] [43])
  (.cond (.tmp 43) (.seq (.reg [⟨(some 4), .assign (.const (.bool false)), none⟩] [4])
  .ret)
  .skip))
  (.seq (.reg [⟨(some 4), .assign (.const (.bool true)), none⟩] [4])
  .ret))))))))))
theorem laws_FnExactSheetsBy_k : fnOk Try.prog 8 = some (laws_FnExactSheetsBy_c.strip, 44, [.tmp 4]) := by kernel_rfl
/-- loop.example/g01062/laws.FnExactCanBeOf: number 9, params [0, 1, 2] -/
def laws_FnExactCanBeOf_c : ACode := (.seq (.reg [⟨(some 6), .assign (.const (.bool false)), none⟩] [0, 1, 2])
  (.seq (.reg [⟨(some 7), .assign (.const (.int .i64 1048576)), none⟩] [0, 1, 2, 7])
  (.seq (.reg [⟨(some 18), .move (.tmp 0), none⟩,
    ⟨(some 19), .move (.tmp 7), none⟩,
    ⟨(some 20), .call ⟨.value (.func 15), #[(.tmp 18), (.tmp 19)], #[22, 3]⟩, none⟩,
    ⟨(some 7), .assign (.tmp 20), none⟩] [0, 1, 2, 7])
  (.seq (.seq (.reg [⟨(some 21), .move (.tmp 7), none⟩,
    ⟨(some 22), .binOp .lss 3 (.tmp 21) (.const (.int .i64 0)) 3, none⟩] [0, 1, 2, 22])
  (.cond (.tmp 22) (.seq (.reg [⟨(some 6), .assign (.const (.bool true)), none⟩] [6])
  .ret)
  .skip))
  (.seq (.reg [⟨(some 24), .move (.tmp 0), none⟩,
    ⟨(some 25), .call ⟨.value (.func 17), #[(.tmp 24)], #[22]⟩, none⟩,
    ⟨(some 26), .move (.tmp 1), none⟩,
    ⟨(some 27), .move (.tmp 2), none⟩,
    ⟨(some 28), .call ⟨.value (.func 30), #[(.tmp 25), (.tmp 26), (.tmp 27)], #[25, 3, 3]⟩, none⟩,
    ⟨(some 23), .move (.tmp 28), none⟩,
    ⟨(some 29), .extract (.tmp 23) 0, none⟩,
    ⟨(some 30), .extract (.tmp 23) 1, none⟩,
    ⟨(some 8), .assign (.tmp 29), none⟩,
    ⟨(some 9), .assign (.tmp 30), none⟩] [0, 1, 2, 8, 9])
  (.seq (.reg [⟨(some 31), .move (.tmp 0), none⟩,
    ⟨(some 32), .call ⟨.value (.func 17), #[(.tmp 31)], #[22]⟩, none⟩,
    ⟨(some 10), .assign (.tmp 32), none⟩] [0, 1, 2, 8, 9, 10])
  (.seq (.reg [⟨(some 34), .move (.tmp 10), none⟩,
    ⟨(some 35), .move (.tmp 1), none⟩,
    ⟨(some 36), .move (.tmp 2), none⟩,
    ⟨(some 37), .call ⟨.value (.func 31), #[(.tmp 34), (.tmp 35), (.tmp 36)], #[25, 3, 3]⟩, none⟩,
    ⟨(some 33), .move (.tmp 37), none⟩,
    ⟨(some 38), .extract (.tmp 33) 0, none⟩,
    ⟨(some 39), .extract (.tmp 33) 1, none⟩,
    ⟨(some 11), .assign (.tmp 38), none⟩,
    ⟨(some 12), .assign (.tmp 39), none⟩] [0, 1, 2, 8, 9, 10, 11, 12])
  (.seq (.seq (.reg [⟨(some 40), .move (.tmp 11), none⟩,
    ⟨(some 41), .move (.tmp 8), none⟩,
    ⟨(some 42), .call ⟨.value (.func 32), #[(.tmp 40), (.tmp 41)], #[37, 37]⟩, none⟩,
    ⟨(some 43), .unOp .not 4 (.tmp 42), none⟩,
    ⟨(some 44), .move (.tmp 43), none⟩,
    ⟨(some 45), .move (.tmp 12), (some (some 44, false))⟩,
    ⟨(some 46), .move (.tmp 9), (some (some 44, false))⟩,
    ⟨(some 47), .binOp .neq 4 (.tmp 45) (.tmp 46) 4, (some (some 44, false))⟩,
    ⟨(some 48), .pick (.tmp 44) (.const (.bool true)) (.tmp 47), none⟩] [0, 1, 2, 8, 9, 10, 11, 12, 48])
  (.cond (.tmp 48) (.seq (.reg [⟨(some 6), .assign (.const (.bool false)), none⟩] [6])
  .ret)
  .skip))
  (.seq (.seq (.reg [⟨(some 49), .move (.tmp 10), none⟩,
    ⟨(some 50), .move (.tmp 0), none⟩,
    ⟨(some 51), .call ⟨.value (.func 17), #[(.tmp 50)], #[22]⟩, none⟩,
    ⟨(some 52), .call ⟨.value (.func 19), #[(.tmp 49), (.tmp 51)], #[25, 25]⟩, none⟩,
    ⟨(some 53), .unOp .not 4 (.tmp 52), none⟩] [0, 1, 2, 8, 9, 10, 11, 12, 53])
  (.cond (.tmp 53) (.seq (.reg [⟨(some 6), .assign (.const (.bool false)), none⟩] [6])
  .ret)
  .skip))
  (.seq (.reg [⟨(some 13), .assign (.const (.int .i64 1)), none⟩] [0, 1, 2, 8, 9, 10, 11, 12, 13])
  (.seq (.reg [⟨(some 54), .move (.tmp 10), none⟩,
    ⟨(some 55), .move (.tmp 13), none⟩,
    ⟨(some 56), .call ⟨.value (.func 33), #[(.tmp 54), (.tmp 55)], #[25, 3]⟩, none⟩,
    ⟨(some 13), .assign (.tmp 56), none⟩] [0, 1, 2, 8, 9, 11, 12, 13])
  (.seq (.seq (.reg [⟨(some 57), .move (.tmp 13), none⟩,
    ⟨(some 58), .binOp .lss 3 (.tmp 57) (.const (.int .i64 0)) 3, none⟩,
    ⟨(some 59), .move (.tmp 58), none⟩,
    ⟨(some 60), .move (.tmp 11), (some (some 59, false))⟩,
    ⟨(some 61), .move (.tmp 8), (some (some 59, false))⟩,
    ⟨(some 62), .call ⟨.value (.func 32), #[(.tmp 60), (.tmp 61)], #[37, 37]⟩, (some (some 59, false))⟩,
    ⟨(some 63), .unOp .not 4 (.tmp 62), (some (some 59, false))⟩,
    ⟨(some 64), .pick (.tmp 59) (.const (.bool true)) (.tmp 63), none⟩,
    ⟨(some 65), .move (.tmp 64), none⟩,
    ⟨(some 66), .move (.tmp 12), (some (some 65, false))⟩,
    ⟨(some 67), .move (.tmp 9), (some (some 65, false))⟩,
    ⟨(some 68), .binOp .neq 4 (.tmp 66) (.tmp 67) 4, (some (some 65, false))⟩,
    ⟨(some 69), .pick (.tmp 65) (.const (.bool true)) (.tmp 68), none⟩] [0, 1, 2, 8, 9, 11, 69])
  (.cond (.tmp 69) (.seq (.reg [⟨(some 6), .assign (.const (.bool false)), none⟩] [6])
  .ret)
  .skip))
  (.seq (.reg [⟨(some 14), .assign (.const (.int .i64 1)), none⟩] [0, 1, 2, 8, 9, 11, 14])
  (.seq (.reg [⟨(some 70), .move (.tmp 11), none⟩,
    ⟨(some 71), .move (.tmp 14), none⟩,
    ⟨(some 72), .call ⟨.value (.func 34), #[(.tmp 70), (.tmp 71)], #[37, 3]⟩, none⟩,
    ⟨(some 14), .assign (.tmp 72), none⟩] [0, 1, 2, 8, 9, 11, 14])
  (.seq (.reg [⟨(some 15), .assign (.const (.int .i64 1)), none⟩] [0, 1, 2, 8, 9, 11, 14, 15])
  (.seq (.reg [⟨(some 73), .move (.tmp 11), none⟩,
    ⟨(some 74), .move (.tmp 15), none⟩,
    ⟨(some 75), .call ⟨.value (.func 35), #[(.tmp 73), (.tmp 74)], #[37, 3]⟩, none⟩,
    ⟨(some 15), .assign (.tmp 75), none⟩] [0, 1, 2, 8, 9, 11, 14, 15])
  (.seq (.seq (.reg [⟨(some 76), .move (.tmp 15), none⟩,
    ⟨(some 77), .binOp .lss 3 (.tmp 76) (.const (.int .i64 0)) 3, none⟩] [0, 1, 2, 8, 9, 11, 14, 15, 77])
  (.cond (.tmp 77) (.seq (.reg [⟨(some 6), .assign (.const (.bool false)), none⟩] [6])
  .ret)
  .skip))
  (.seq (.seq (.reg [⟨(some 78), .move (.tmp 15), none⟩,
    ⟨(some 79), .move (.tmp 14), none⟩,
    ⟨(some 80), .binOp .neq 3 (.tmp 78) (.tmp 79) 3, none⟩] [0, 1, 2, 8, 9, 11, 14, 80])
  (.cond (.tmp 80) (.seq (.reg [⟨(some 6), .assign (.const (.bool false)), none⟩] [6])
  .ret)
  .skip))
  (.seq (.reg [⟨(some 82), .move (.tmp 0), none⟩,
    ⟨(some 83), .call ⟨.value (.func 17), #[(.tmp 82)], #[22]⟩, none⟩,
    ⟨(some 84), .move (.tmp 1), none⟩,
    ⟨(some 85), .move (.tmp 2), none⟩,
    ⟨(some 86), .call ⟨.value (.func 31), #[(.tmp 83), (.tmp 84), (.tmp 85)], #[25, 3, 3]⟩, none⟩,
    ⟨(some 81), .move (.tmp 86), none⟩,
    ⟨(some 87), .extract (.tmp 81) 0, none⟩,
    ⟨(some 88), .extract (.tmp 81) 1, none⟩,
    ⟨(some 16), .assign (.tmp 87), none⟩,
    ⟨(some 17), .assign (.tmp 88), none⟩] [8, 9, 11, 14, 16, 17])
  (.seq (.seq (.reg [⟨(some 89), .move (.tmp 16), none⟩,
    ⟨(some 90), .move (.tmp 8), none⟩,
    ⟨(some 91), .call ⟨.value (.func 32), #[(.tmp 89), (.tmp 90)], #[37, 37]⟩, none⟩,
    ⟨(some 92), .unOp .not 4 (.tmp 91), none⟩,
    ⟨(some 93), .move (.tmp 92), none⟩,
    ⟨(some 94), .move (.tmp 17), (some (some 93, false))⟩,
    ⟨(some 95), .move (.tmp 9), (some (some 93, false))⟩,
    ⟨(some 96), .binOp .neq 4 (.tmp 94) (.tmp 95) 4, (some (some 93, false))⟩,
    ⟨(some 97), .pick (.tmp 93) (.const (.bool true)) (.tmp 96), none⟩] [11, 14, 97])
  (.cond (.tmp 97) (.seq (.reg [⟨(some 6), .assign (.const (.bool false)), none⟩] [6])
  .ret)
  .skip))
  (.seq (.reg [⟨(some 15), .assign (.const (.int .i64 1)), none⟩] [11, 14, 15])
  (.seq (.reg [⟨(some 98), .move (.tmp 11), none⟩,
    ⟨(some 99), .move (.tmp 15), none⟩,
    ⟨(some 100), .call ⟨.value (.func 35), #[(.tmp 98), (.tmp 99)], #[37, 3]⟩, none⟩,
    ⟨(some 15), .assign (.tmp 100), none⟩] [14, 15])
  (.seq (.seq (.reg [⟨(some 101), .move (.tmp 15), none⟩,
    ⟨(some 102), .binOp .lss 3 (.tmp 101) (.const (.int .i64 0)) 3, none⟩] [14, 15, 102])
  (.cond (.tmp 102) (.seq (.reg [⟨(some 6), .assign (.const (.bool false)), none⟩] [6])
  .ret)
  .skip))
  (.seq (.seq (.reg [⟨(some 103), .move (.tmp 15), none⟩,
    ⟨(some 104), .move (.tmp 14), none⟩,
    ⟨(some 105), .binOp .neq 3 (.tmp 103) (.tmp 104) 3, none⟩] [105])
  (.cond (.tmp 105) (.seq (.reg [⟨(some 6), .assign (.const (.bool false)), none⟩] [6])
  .ret)
  .skip))
  (.seq (.reg [⟨(some 6), .assign (.const (.bool true)), none⟩] [6])
  .ret)))))))))))))))))))))))))
theorem laws_FnExactCanBeOf_k : fnOk Try.prog 9 = some (laws_FnExactCanBeOf_c.strip, 106, [.tmp 6]) := by kernel_rfl
/-- loop.example/g01062/laws.FnExactShareOfSheets: number 10, params [0, 1] -/
def laws_FnExactShareOfSheets_c : ACode := (.seq (.reg [⟨(some 4), .assign (.const (.bool false)), none⟩] [0, 1])
  (.seq (.reg [⟨(some 5), .assign (.const (.int .i64 1048576)), none⟩] [0, 1, 5])
  (.seq (.reg [⟨(some 13), .move (.tmp 0), none⟩,
    ⟨(some 14), .move (.tmp 5), none⟩,
    ⟨(some 15), .call ⟨.value (.func 15), #[(.tmp 13), (.tmp 14)], #[22, 3]⟩, none⟩,
    ⟨(some 5), .assign (.tmp 15), none⟩] [0, 1, 5])
  (.seq (.seq (.reg [⟨(some 16), .move (.tmp 5), none⟩,
    ⟨(some 17), .binOp .lss 3 (.tmp 16) (.const (.int .i64 0)) 3, none⟩] [0, 1, 17])
  (.cond (.tmp 17) (.seq (.reg [⟨(some 4), .assign (.const (.bool true)), none⟩] [4])
  .ret)
  .skip))
  (.seq (.reg [⟨(some 19), .move (.tmp 0), none⟩,
    ⟨(some 20), .call ⟨.value (.func 17), #[(.tmp 19)], #[22]⟩, none⟩,
    ⟨(some 21), .move (.tmp 1), none⟩,
    ⟨(some 22), .call ⟨.value (.func 36), #[(.tmp 20), (.tmp 21)], #[25, 3]⟩, none⟩,
    ⟨(some 18), .move (.tmp 22), none⟩,
    ⟨(some 23), .extract (.tmp 18) 0, none⟩,
    ⟨(some 24), .extract (.tmp 18) 1, none⟩,
    ⟨(some 25), .extract (.tmp 18) 2, none⟩,
    ⟨(some 6), .assign (.tmp 23), none⟩,
    ⟨(some 7), .assign (.tmp 24), none⟩,
    ⟨(some 8), .assign (.tmp 25), none⟩] [0, 1, 6, 7, 8])
  (.seq (.reg [⟨(some 26), .move (.tmp 0), none⟩,
    ⟨(some 27), .call ⟨.value (.func 17), #[(.tmp 26)], #[22]⟩, none⟩,
    ⟨(some 9), .assign (.tmp 27), none⟩] [0, 1, 6, 7, 8, 9])
  (.seq (.reg [⟨(some 29), .move (.tmp 9), none⟩,
    ⟨(some 30), .move (.tmp 1), none⟩,
    ⟨(some 31), .call ⟨.value (.func 37), #[(.tmp 29), (.tmp 30)], #[25, 3]⟩, none⟩,
    ⟨(some 28), .move (.tmp 31), none⟩,
    ⟨(some 32), .extract (.tmp 28) 0, none⟩,
    ⟨(some 33), .extract (.tmp 28) 1, none⟩,
    ⟨(some 34), .extract (.tmp 28) 2, none⟩,
    ⟨(some 10), .assign (.tmp 32), none⟩,
    ⟨(some 11), .assign (.tmp 33), none⟩,
    ⟨(some 12), .assign (.tmp 34), none⟩] [0, 6, 7, 8, 9, 10, 11, 12])
  (.seq (.seq (.reg [⟨(some 35), .move (.tmp 10), none⟩,
    ⟨(some 36), .move (.tmp 6), none⟩,
    ⟨(some 37), .binOp .neq 3 (.tmp 35) (.tmp 36) 3, none⟩,
    ⟨(some 38), .move (.tmp 37), none⟩,
    ⟨(some 39), .move (.tmp 11), (some (some 38, false))⟩,
    ⟨(some 40), .move (.tmp 7), (some (some 38, false))⟩,
    ⟨(some 41), .binOp .neq 3 (.tmp 39) (.tmp 40) 3, (some (some 38, false))⟩,
    ⟨(some 42), .pick (.tmp 38) (.const (.bool true)) (.tmp 41), none⟩,
    ⟨(some 43), .move (.tmp 42), none⟩,
    ⟨(some 44), .move (.tmp 12), (some (some 43, false))⟩,
    ⟨(some 45), .move (.tmp 8), (some (some 43, false))⟩,
    ⟨(some 46), .binOp .neq 4 (.tmp 44) (.tmp 45) 4, (some (some 43, false))⟩,
    ⟨(some 47), .pick (.tmp 43) (.const (.bool true)) (.tmp 46), none⟩] [0, 9, 47])
  (.cond (.tmp 47) (.seq (.reg [⟨(some 4), .assign (.const (.bool false)), none⟩] [4])
  .ret)
  .skip))
  (.seq (.seq (.reg [⟨(some 48), .move (.tmp 9), none⟩,
    ⟨(some 49), .move (.tmp 0), none⟩,
    ⟨(some 50), .call ⟨.value (.func 17), #[(.tmp 49)], #[22]⟩, none⟩,
    ⟨(some 51), .call ⟨.value (.func 19), #[(.tmp 48), (.tmp 50)], #[25, 25]⟩, none⟩,
    ⟨(some 52), .unOp .not 4 (.tmp 51), none⟩] [52])
  (.cond (.tmp 52) (.seq (.reg [⟨(some 4), .assign (.const (.bool false)), none⟩] [4])
  .ret)
  .skip))
  (.seq (.reg [⟨(some 4), .assign (.const (.bool true)), none⟩] [4])
  .ret))))))))))
theorem laws_FnExactShareOfSheets_k : fnOk Try.prog 10 = some (laws_FnExactShareOfSheets_c.strip, 53, [.tmp 4]) := by kernel_rfl
/-- loop.example/g01062/laws.FnExactNextPrinting: number 11, params [0, 1, 2, 3, 4] -/
def laws_FnExactNextPrinting_c : ACode := (.seq (.reg [⟨(some 10), .assign (.const (.bool false)), none⟩] [0, 1, 2, 3, 4])
  (.seq (.reg [⟨(some 11), .assign (.const (.int .i64 1048576)), none⟩] [0, 1, 2, 3, 4, 11])
  (.seq (.reg [⟨(some 25), .move (.tmp 0), none⟩,
    ⟨(some 26), .move (.tmp 11), none⟩,
    ⟨(some 27), .call ⟨.value (.func 15), #[(.tmp 25), (.tmp 26)], #[22, 3]⟩, none⟩,
    ⟨(some 11), .assign (.tmp 27), none⟩] [0, 1, 2, 3, 4, 11])
  (.seq (.seq (.reg [⟨(some 28), .move (.tmp 11), none⟩,
    ⟨(some 29), .binOp .lss 3 (.tmp 28) (.const (.int .i64 0)) 3, none⟩] [0, 1, 2, 3, 4, 29])
  (.cond (.tmp 29) (.seq (.reg [⟨(some 10), .assign (.const (.bool true)), none⟩] [10])
  .ret)
  .skip))
  (.seq (.reg [⟨(some 31), .move (.tmp 0), none⟩,
    ⟨(some 32), .call ⟨.value (.func 17), #[(.tmp 31)], #[22]⟩, none⟩,
    ⟨(some 33), .move (.tmp 1), none⟩,
    ⟨(some 34), .move (.tmp 2), none⟩,
    ⟨(some 35), .move (.tmp 3), none⟩,
    ⟨(some 36), .move (.tmp 4), none⟩,
    ⟨(some 37), .call ⟨.value (.func 38), #[(.tmp 32), (.tmp 33), (.tmp 34), (.tmp 35), (.tmp 36)], #[25, 3, 3, 3, 3]⟩, none⟩,
    ⟨(some 30), .move (.tmp 37), none⟩,
    ⟨(some 38), .extract (.tmp 30) 0, none⟩,
    ⟨(some 39), .extract (.tmp 30) 1, none⟩,
    ⟨(some 40), .extract (.tmp 30) 2, none⟩,
    ⟨(some 12), .assign (.tmp 38), none⟩,
    ⟨(some 13), .assign (.tmp 39), none⟩,
    ⟨(some 14), .assign (.tmp 40), none⟩] [0, 1, 2, 3, 4, 12, 13, 14])
  (.seq (.reg [⟨(some 41), .move (.tmp 0), none⟩,
    ⟨(some 42), .call ⟨.value (.func 17), #[(.tmp 41)], #[22]⟩, none⟩,
    ⟨(some 15), .assign (.tmp 42), none⟩] [0, 1, 2, 3, 4, 12, 13, 14, 15])
  (.seq (.reg [⟨(some 44), .move (.tmp 15), none⟩,
    ⟨(some 45), .move (.tmp 1), none⟩,
    ⟨(some 46), .move (.tmp 2), none⟩,
    ⟨(some 47), .move (.tmp 3), none⟩,
    ⟨(some 48), .move (.tmp 4), none⟩,
    ⟨(some 49), .call ⟨.value (.func 39), #[(.tmp 44), (.tmp 45), (.tmp 46), (.tmp 47), (.tmp 48)], #[25, 3, 3, 3, 3]⟩, none⟩,
    ⟨(some 43), .move (.tmp 49), none⟩,
    ⟨(some 50), .extract (.tmp 43) 0, none⟩,
    ⟨(some 51), .extract (.tmp 43) 1, none⟩,
    ⟨(some 52), .extract (.tmp 43) 2, none⟩,
    ⟨(some 16), .assign (.tmp 50), none⟩,
    ⟨(some 17), .assign (.tmp 51), none⟩,
    ⟨(some 18), .assign (.tmp 52), none⟩] [0, 1, 2, 3, 4, 12, 13, 14, 15, 16, 17, 18])
  (.seq (.seq (.reg [⟨(some 53), .move (.tmp 16), none⟩,
    ⟨(some 54), .move (.tmp 12), none⟩,
    ⟨(some 55), .call ⟨.value (.func 19), #[(.tmp 53), (.tmp 54)], #[25, 25]⟩, none⟩,
    ⟨(some 56), .unOp .not 4 (.tmp 55), none⟩,
    ⟨(some 57), .move (.tmp 56), none⟩,
    ⟨(some 58), .move (.tmp 17), (some (some 57, false))⟩,
    ⟨(some 59), .move (.tmp 13), (some (some 57, false))⟩,
    ⟨(some 60), .binOp .neq 3 (.tmp 58) (.tmp 59) 3, (some (some 57, false))⟩,
    ⟨(some 61), .pick (.tmp 57) (.const (.bool true)) (.tmp 60), none⟩,
    ⟨(some 62), .move (.tmp 61), none⟩,
    ⟨(some 63), .move (.tmp 18), (some (some 62, false))⟩,
    ⟨(some 64), .move (.tmp 14), (some (some 62, false))⟩,
    ⟨(some 65), .binOp .neq 4 (.tmp 63) (.tmp 64) 4, (some (some 62, false))⟩,
    ⟨(some 66), .pick (.tmp 62) (.const (.bool true)) (.tmp 65), none⟩] [0, 1, 2, 3, 4, 12, 13, 14, 15, 16, 17, 18, 66])
  (.cond (.tmp 66) (.seq (.reg [⟨(some 10), .assign (.const (.bool false)), none⟩] [10])
  .ret)
  .skip))
  (.seq (.seq (.reg [⟨(some 67), .move (.tmp 15), none⟩,
    ⟨(some 68), .move (.tmp 0), none⟩,
    ⟨(some 69), .call ⟨.value (.func 17), #[(.tmp 68)], #[22]⟩, none⟩,
    ⟨(some 70), .call ⟨.value (.func 19), #[(.tmp 67), (.tmp 69)], #[25, 25]⟩, none⟩,
    ⟨(some 71), .unOp .not 4 (.tmp 70), none⟩] [0, 1, 2, 3, 4, 12, 13, 14, 15, 16, 17, 18, 71])
  (.cond (.tmp 71) (.seq (.reg [⟨(some 10), .assign (.const (.bool false)), none⟩] [10])
  .ret)
  .skip))
  (.seq (.reg [⟨(some 19), .assign (.const (.int .i64 1)), none⟩] [0, 1, 2, 3, 4, 12, 13, 14, 15, 16, 17, 18, 19])
  (.seq (.reg [⟨(some 72), .move (.tmp 15), none⟩,
    ⟨(some 73), .move (.tmp 19), none⟩,
    ⟨(some 74), .call ⟨.value (.func 33), #[(.tmp 72), (.tmp 73)], #[25, 3]⟩, none⟩,
    ⟨(some 19), .assign (.tmp 74), none⟩] [0, 1, 2, 3, 4, 12, 13, 14, 16, 17, 18, 19])
  (.seq (.seq (.reg [⟨(some 75), .move (.tmp 19), none⟩,
    ⟨(some 76), .binOp .lss 3 (.tmp 75) (.const (.int .i64 0)) 3, none⟩,
    ⟨(some 77), .move (.tmp 76), none⟩,
    ⟨(some 78), .move (.tmp 16), (some (some 77, false))⟩,
    ⟨(some 79), .move (.tmp 12), (some (some 77, false))⟩,
    ⟨(some 80), .call ⟨.value (.func 19), #[(.tmp 78), (.tmp 79)], #[25, 25]⟩, (some (some 77, false))⟩,
    ⟨(some 81), .unOp .not 4 (.tmp 80), (some (some 77, false))⟩,
    ⟨(some 82), .pick (.tmp 77) (.const (.bool true)) (.tmp 81), none⟩,
    ⟨(some 83), .move (.tmp 82), none⟩,
    ⟨(some 84), .move (.tmp 17), (some (some 83, false))⟩,
    ⟨(some 85), .move (.tmp 13), (some (some 83, false))⟩,
    ⟨(some 86), .binOp .neq 3 (.tmp 84) (.tmp 85) 3, (some (some 83, false))⟩,
    ⟨(some 87), .pick (.tmp 83) (.const (.bool true)) (.tmp 86), none⟩,
    ⟨(some 88), .move (.tmp 87), none⟩,
    ⟨(some 89), .move (.tmp 18), (some (some 88, false))⟩,
    ⟨(some 90), .move (.tmp 14), (some (some 88, false))⟩,
    ⟨(some 91), .binOp .neq 4 (.tmp 89) (.tmp 90) 4, (some (some 88, false))⟩,
    ⟨(some 92), .pick (.tmp 88) (.const (.bool true)) (.tmp 91), none⟩] [0, 1, 2, 3, 4, 12, 13, 14, 16, 92])
  (.cond (.tmp 92) (.seq (.reg [⟨(some 10), .assign (.const (.bool false)), none⟩] [10])
  .ret)
  .skip))
  (.seq (.reg [⟨(some 20), .assign (.const (.int .i64 1)), none⟩] [0, 1, 2, 3, 4, 12, 13, 14, 16, 20])
  (.seq (.reg [⟨(some 93), .move (.tmp 16), none⟩,
    ⟨(some 94), .move (.tmp 20), none⟩,
    ⟨(some 95), .call ⟨.value (.func 33), #[(.tmp 93), (.tmp 94)], #[25, 3]⟩, none⟩,
    ⟨(some 20), .assign (.tmp 95), none⟩] [0, 1, 2, 3, 4, 12, 13, 14, 16, 20])
  (.seq (.reg [⟨(some 21), .assign (.const (.int .i64 1)), none⟩] [0, 1, 2, 3, 4, 12, 13, 14, 16, 20, 21])
  (.seq (.reg [⟨(some 96), .move (.tmp 16), none⟩,
    ⟨(some 97), .move (.tmp 21), none⟩,
    ⟨(some 98), .call ⟨.value (.func 40), #[(.tmp 96), (.tmp 97)], #[25, 3]⟩, none⟩,
    ⟨(some 21), .assign (.tmp 98), none⟩] [0, 1, 2, 3, 4, 12, 13, 14, 16, 20, 21])
  (.seq (.seq (.reg [⟨(some 99), .move (.tmp 21), none⟩,
    ⟨(some 100), .binOp .lss 3 (.tmp 99) (.const (.int .i64 0)) 3, none⟩] [0, 1, 2, 3, 4, 12, 13, 14, 16, 20, 21, 100])
  (.cond (.tmp 100) (.seq (.reg [⟨(some 10), .assign (.const (.bool false)), none⟩] [10])
  .ret)
  .skip))
  (.seq (.seq (.reg [⟨(some 101), .move (.tmp 21), none⟩,
    ⟨(some 102), .move (.tmp 20), none⟩,
    ⟨(some 103), .binOp .neq 3 (.tmp 101) (.tmp 102) 3, none⟩] [0, 1, 2, 3, 4, 12, 13, 14, 16, 20, 103])
  (.cond (.tmp 103) (.seq (.reg [⟨(some 10), .assign (.const (.bool false)), none⟩] [10])
  .ret)
  .skip))
  (.seq (.reg [⟨(some 105), .move (.tmp 0), none⟩,
    ⟨(some 106), .call ⟨.value (.func 17), #[(.tmp 105)], #[22]⟩, none⟩,
    ⟨(some 107), .move (.tmp 1), none⟩,
    ⟨(some 108), .move (.tmp 2), none⟩,
    ⟨(some 109), .move (.tmp 3), none⟩,
    ⟨(some 110), .move (.tmp 4), none⟩,
    ⟨(some 111), .call ⟨.value (.func 39), #[(.tmp 106), (.tmp 107), (.tmp 108), (.tmp 109), (.tmp 110)], #[25, 3, 3, 3, 3]⟩, none⟩,
    ⟨(some 104), .move (.tmp 111), none⟩,
    ⟨(some 112), .extract (.tmp 104) 0, none⟩,
    ⟨(some 113), .extract (.tmp 104) 1, none⟩,
    ⟨(some 114), .extract (.tmp 104) 2, none⟩,
    ⟨(some 22), .assign (.tmp 112), none⟩,
    ⟨(some 23), .assign (.tmp 113), none⟩,
    ⟨(some 24), .assign (.tmp 114), none⟩] [12, 13, 14, 16, 20, 22, 23, 24])
  (.seq (.seq (.reg [⟨(some 115), .move (.tmp 22), none⟩,
    ⟨(some 116), .move (.tmp 12), none⟩,
    ⟨(some 117), .call ⟨.value (.func 19), #[(.tmp 115), (.tmp 116)], #[25, 25]⟩, none⟩,
    ⟨(some 118), .unOp .not 4 (.tmp 117), none⟩,
    ⟨(some 119), .move (.tmp 118), none⟩,
    ⟨(some 120), .move (.tmp 23), (some (some 119, false))⟩,
    ⟨(some 121), .move (.tmp 13), (some (some 119, false))⟩,
    ⟨(some 122), .binOp .neq 3 (.tmp 120) (.tmp 121) 3, (some (some 119, false))⟩,
    ⟨(some 123), .pick (.tmp 119) (.const (.bool true)) (.tmp 122), none⟩,
    ⟨(some 124), .move (.tmp 123), none⟩,
    ⟨(some 125), .move (.tmp 24), (some (some 124, false))⟩,
    ⟨(some 126), .move (.tmp 14), (some (some 124, false))⟩,
    ⟨(some 127), .binOp .neq 4 (.tmp 125) (.tmp 126) 4, (some (some 124, false))⟩,
    ⟨(some 128), .pick (.tmp 124) (.const (.bool true)) (.tmp 127), none⟩] [16, 20, 128])
  (.cond (.tmp 128) (.seq (.reg [⟨(some 10), .assign (.const (.bool false)), none⟩] [10])
  .ret)
  .skip))
  (.seq (.reg [⟨(some 21), .assign (.const (.int .i64 1)), none⟩] [16, 20, 21])
  (.seq (.reg [⟨(some 129), .move (.tmp 16), none⟩,
    ⟨(some 130), .move (.tmp 21), none⟩,
    ⟨(some 131), .call ⟨.value (.func 40), #[(.tmp 129), (.tmp 130)], #[25, 3]⟩, none⟩,
    ⟨(some 21), .assign (.tmp 131), none⟩] [20, 21])
  (.seq (.seq (.reg [⟨(some 132), .move (.tmp 21), none⟩,
    ⟨(some 133), .binOp .lss 3 (.tmp 132) (.const (.int .i64 0)) 3, none⟩] [20, 21, 133])
  (.cond (.tmp 133) (.seq (.reg [⟨(some 10), .assign (.const (.bool false)), none⟩] [10])
  .ret)
  .skip))
  (.seq (.seq (.reg [⟨(some 134), .move (.tmp 21), none⟩,
    ⟨(some 135), .move (.tmp 20), none⟩,
    ⟨(some 136), .binOp .neq 3 (.tmp 134) (.tmp 135) 3, none⟩] [136])
  (.cond (.tmp 136) (.seq (.reg [⟨(some 10), .assign (.const (.bool false)), none⟩] [10])
  .ret)
  .skip))
  (.seq (.reg [⟨(some 10), .assign (.const (.bool true)), none⟩] [10])
  .ret)))))))))))))))))))))))))
theorem laws_FnExactNextPrinting_k : fnOk Try.prog 11 = some (laws_FnExactNextPrinting_c.strip, 137, [.tmp 10]) := by kernel_rfl
/-- loop.example/g01062/laws.FnExactChanceOf: number 12, params [0, 1, 2, 3] -/
def laws_FnExactChanceOf_c : ACode := (.seq (.reg [⟨(some 8), .assign (.const (.bool false)), none⟩] [0, 1, 2, 3])
  (.seq (.reg [⟨(some 9), .assign (.const (.int .i64 1048576)), none⟩] [0, 1, 2, 3, 9])
  (.seq (.reg [⟨(some 17), .move (.tmp 0), none⟩,
    ⟨(some 18), .move (.tmp 9), none⟩,
    ⟨(some 19), .call ⟨.value (.func 15), #[(.tmp 17), (.tmp 18)], #[22, 3]⟩, none⟩,
    ⟨(some 9), .assign (.tmp 19), none⟩] [0, 1, 2, 3, 9])
  (.seq (.seq (.reg [⟨(some 20), .move (.tmp 9), none⟩,
    ⟨(some 21), .binOp .lss 3 (.tmp 20) (.const (.int .i64 0)) 3, none⟩] [0, 1, 2, 3, 21])
  (.cond (.tmp 21) (.seq (.reg [⟨(some 8), .assign (.const (.bool true)), none⟩] [8])
  .ret)
  .skip))
  (.seq (.reg [⟨(some 23), .move (.tmp 0), none⟩,
    ⟨(some 24), .call ⟨.value (.func 17), #[(.tmp 23)], #[22]⟩, none⟩,
    ⟨(some 25), .move (.tmp 1), none⟩,
    ⟨(some 26), .move (.tmp 2), none⟩,
    ⟨(some 27), .move (.tmp 3), none⟩,
    ⟨(some 28), .call ⟨.value (.func 41), #[(.tmp 24), (.tmp 25), (.tmp 26), (.tmp 27)], #[25, 3, 3, 3]⟩, none⟩,
    ⟨(some 22), .move (.tmp 28), none⟩,
    ⟨(some 29), .extract (.tmp 22) 0, none⟩,
    ⟨(some 30), .extract (.tmp 22) 1, none⟩,
    ⟨(some 31), .extract (.tmp 22) 2, none⟩,
    ⟨(some 10), .assign (.tmp 29), none⟩,
    ⟨(some 11), .assign (.tmp 30), none⟩,
    ⟨(some 12), .assign (.tmp 31), none⟩] [0, 1, 2, 3, 10, 11, 12])
  (.seq (.reg [⟨(some 32), .move (.tmp 0), none⟩,
    ⟨(some 33), .call ⟨.value (.func 17), #[(.tmp 32)], #[22]⟩, none⟩,
    ⟨(some 13), .assign (.tmp 33), none⟩] [0, 1, 2, 3, 10, 11, 12, 13])
  (.seq (.reg [⟨(some 35), .move (.tmp 13), none⟩,
    ⟨(some 36), .move (.tmp 1), none⟩,
    ⟨(some 37), .move (.tmp 2), none⟩,
    ⟨(some 38), .move (.tmp 3), none⟩,
    ⟨(some 39), .call ⟨.value (.func 42), #[(.tmp 35), (.tmp 36), (.tmp 37), (.tmp 38)], #[25, 3, 3, 3]⟩, none⟩,
    ⟨(some 34), .move (.tmp 39), none⟩,
    ⟨(some 40), .extract (.tmp 34) 0, none⟩,
    ⟨(some 41), .extract (.tmp 34) 1, none⟩,
    ⟨(some 42), .extract (.tmp 34) 2, none⟩,
    ⟨(some 14), .assign (.tmp 40), none⟩,
    ⟨(some 15), .assign (.tmp 41), none⟩,
    ⟨(some 16), .assign (.tmp 42), none⟩] [0, 10, 11, 12, 13, 14, 15, 16])
  (.seq (.seq (.reg [⟨(some 43), .move (.tmp 14), none⟩,
    ⟨(some 44), .move (.tmp 10), none⟩,
    ⟨(some 45), .binOp .neq 3 (.tmp 43) (.tmp 44) 3, none⟩,
    ⟨(some 46), .move (.tmp 45), none⟩,
    ⟨(some 47), .move (.tmp 15), (some (some 46, false))⟩,
    ⟨(some 48), .move (.tmp 11), (some (some 46, false))⟩,
    ⟨(some 49), .binOp .neq 3 (.tmp 47) (.tmp 48) 3, (some (some 46, false))⟩,
    ⟨(some 50), .pick (.tmp 46) (.const (.bool true)) (.tmp 49), none⟩,
    ⟨(some 51), .move (.tmp 50), none⟩,
    ⟨(some 52), .move (.tmp 16), (some (some 51, false))⟩,
    ⟨(some 53), .move (.tmp 12), (some (some 51, false))⟩,
    ⟨(some 54), .binOp .neq 4 (.tmp 52) (.tmp 53) 4, (some (some 51, false))⟩,
    ⟨(some 55), .pick (.tmp 51) (.const (.bool true)) (.tmp 54), none⟩] [0, 13, 55])
  (.cond (.tmp 55) (.seq (.reg [⟨(some 8), .assign (.const (.bool false)), none⟩] [8])
  .ret)
  .skip))
  (.seq (.seq (.reg [⟨(some 56), .move (.tmp 13), none⟩,
    ⟨(some 57), .move (.tmp 0), none⟩,
    ⟨(some 58), .call ⟨.value (.func 17), #[(.tmp 57)], #[22]⟩, none⟩,
    ⟨(some 59), .call ⟨.value (.func 19), #[(.tmp 56), (.tmp 58)], #[25, 25]⟩, none⟩,
    ⟨(some 60), .unOp .not 4 (.tmp 59), none⟩] [60])
  (.cond (.tmp 60) (.seq (.reg [⟨(some 8), .assign (.const (.bool false)), none⟩] [8])
  .ret)
  .skip))
  (.seq (.reg [⟨(some 8), .assign (.const (.bool true)), none⟩] [8])
  .ret))))))))))
theorem laws_FnExactChanceOf_k : fnOk Try.prog 12 = some (laws_FnExactChanceOf_c.strip, 61, [.tmp 8]) := by kernel_rfl
/-- loop.example/g01062/laws.FnExactUniqueTones: number 13, params [0, 1] -/
def laws_FnExactUniqueTones_c : ACode := (.seq (.reg [⟨(some 4), .assign (.const (.bool false)), none⟩] [0, 1])
  (.seq (.reg [⟨(some 5), .assign (.const (.int .i64 1048576)), none⟩] [0, 1, 5])
  (.seq (.reg [⟨(some 16), .move (.tmp 0), none⟩,
    ⟨(some 17), .move (.tmp 5), none⟩,
    ⟨(some 18), .call ⟨.value (.func 15), #[(.tmp 16), (.tmp 17)], #[22, 3]⟩, none⟩,
    ⟨(some 5), .assign (.tmp 18), none⟩] [0, 1, 5])
  (.seq (.seq (.reg [⟨(some 19), .move (.tmp 5), none⟩,
    ⟨(some 20), .binOp .lss 3 (.tmp 19) (.const (.int .i64 0)) 3, none⟩] [0, 1, 20])
  (.cond (.tmp 20) (.seq (.reg [⟨(some 4), .assign (.const (.bool true)), none⟩] [4])
  .ret)
  .skip))
  (.seq (.reg [⟨(some 22), .move (.tmp 0), none⟩,
    ⟨(some 23), .call ⟨.value (.func 17), #[(.tmp 22)], #[22]⟩, none⟩,
    ⟨(some 24), .move (.tmp 1), none⟩,
    ⟨(some 25), .call ⟨.value (.func 43), #[(.tmp 23), (.tmp 24)], #[25, 3]⟩, none⟩,
    ⟨(some 21), .move (.tmp 25), none⟩,
    ⟨(some 26), .extract (.tmp 21) 0, none⟩,
    ⟨(some 27), .extract (.tmp 21) 1, none⟩,
    ⟨(some 6), .assign (.tmp 26), none⟩,
    ⟨(some 7), .assign (.tmp 27), none⟩] [0, 1, 6, 7])
  (.seq (.reg [⟨(some 28), .move (.tmp 0), none⟩,
    ⟨(some 29), .call ⟨.value (.func 17), #[(.tmp 28)], #[22]⟩, none⟩,
    ⟨(some 8), .assign (.tmp 29), none⟩] [0, 1, 6, 7, 8])
  (.seq (.reg [⟨(some 31), .move (.tmp 8), none⟩,
    ⟨(some 32), .move (.tmp 1), none⟩,
    ⟨(some 33), .call ⟨.value (.func 44), #[(.tmp 31), (.tmp 32)], #[25, 3]⟩, none⟩,
    ⟨(some 30), .move (.tmp 33), none⟩,
    ⟨(some 34), .extract (.tmp 30) 0, none⟩,
    ⟨(some 35), .extract (.tmp 30) 1, none⟩,
    ⟨(some 9), .assign (.tmp 34), none⟩,
    ⟨(some 10), .assign (.tmp 35), none⟩] [0, 1, 6, 7, 8, 9, 10])
  (.seq (.seq (.reg [⟨(some 36), .move (.tmp 9), none⟩,
    ⟨(some 37), .move (.tmp 6), none⟩,
    ⟨(some 38), .call ⟨.value (.func 32), #[(.tmp 36), (.tmp 37)], #[37, 37]⟩, none⟩,
    ⟨(some 39), .unOp .not 4 (.tmp 38), none⟩,
    ⟨(some 40), .move (.tmp 39), none⟩,
    ⟨(some 41), .move (.tmp 10), (some (some 40, false))⟩,
    ⟨(some 42), .move (.tmp 7), (some (some 40, false))⟩,
    ⟨(some 43), .binOp .neq 4 (.tmp 41) (.tmp 42) 4, (some (some 40, false))⟩,
    ⟨(some 44), .pick (.tmp 40) (.const (.bool true)) (.tmp 43), none⟩] [0, 1, 6, 7, 8, 9, 10, 44])
  (.cond (.tmp 44) (.seq (.reg [⟨(some 4), .assign (.const (.bool false)), none⟩] [4])
  .ret)
  .skip))
  (.seq (.seq (.reg [⟨(some 45), .move (.tmp 8), none⟩,
    ⟨(some 46), .move (.tmp 0), none⟩,
    ⟨(some 47), .call ⟨.value (.func 17), #[(.tmp 46)], #[22]⟩, none⟩,
    ⟨(some 48), .call ⟨.value (.func 19), #[(.tmp 45), (.tmp 47)], #[25, 25]⟩, none⟩,
    ⟨(some 49), .unOp .not 4 (.tmp 48), none⟩] [0, 1, 6, 7, 8, 9, 10, 49])
  (.cond (.tmp 49) (.seq (.reg [⟨(some 4), .assign (.const (.bool false)), none⟩] [4])
  .ret)
  .skip))
  (.seq (.reg [⟨(some 11), .assign (.const (.int .i64 1)), none⟩] [0, 1, 6, 7, 8, 9, 10, 11])
  (.seq (.reg [⟨(some 50), .move (.tmp 8), none⟩,
    ⟨(some 51), .move (.tmp 11), none⟩,
    ⟨(some 52), .call ⟨.value (.func 33), #[(.tmp 50), (.tmp 51)], #[25, 3]⟩, none⟩,
    ⟨(some 11), .assign (.tmp 52), none⟩] [0, 1, 6, 7, 9, 10, 11])
  (.seq (.seq (.reg [⟨(some 53), .move (.tmp 11), none⟩,
    ⟨(some 54), .binOp .lss 3 (.tmp 53) (.const (.int .i64 0)) 3, none⟩,
    ⟨(some 55), .move (.tmp 54), none⟩,
    ⟨(some 56), .move (.tmp 9), (some (some 55, false))⟩,
    ⟨(some 57), .move (.tmp 6), (some (some 55, false))⟩,
    ⟨(some 58), .call ⟨.value (.func 32), #[(.tmp 56), (.tmp 57)], #[37, 37]⟩, (some (some 55, false))⟩,
    ⟨(some 59), .unOp .not 4 (.tmp 58), (some (some 55, false))⟩,
    ⟨(some 60), .pick (.tmp 55) (.const (.bool true)) (.tmp 59), none⟩,
    ⟨(some 61), .move (.tmp 60), none⟩,
    ⟨(some 62), .move (.tmp 10), (some (some 61, false))⟩,
    ⟨(some 63), .move (.tmp 7), (some (some 61, false))⟩,
    ⟨(some 64), .binOp .neq 4 (.tmp 62) (.tmp 63) 4, (some (some 61, false))⟩,
    ⟨(some 65), .pick (.tmp 61) (.const (.bool true)) (.tmp 64), none⟩] [0, 1, 6, 7, 9, 65])
  (.cond (.tmp 65) (.seq (.reg [⟨(some 4), .assign (.const (.bool false)), none⟩] [4])
  .ret)
  .skip))
  (.seq (.reg [⟨(some 12), .assign (.const (.int .i64 1)), none⟩] [0, 1, 6, 7, 9, 12])
  (.seq (.reg [⟨(some 66), .move (.tmp 9), none⟩,
    ⟨(some 67), .move (.tmp 12), none⟩,
    ⟨(some 68), .call ⟨.value (.func 34), #[(.tmp 66), (.tmp 67)], #[37, 3]⟩, none⟩,
    ⟨(some 12), .assign (.tmp 68), none⟩] [0, 1, 6, 7, 9, 12])
  (.seq (.reg [⟨(some 13), .assign (.const (.int .i64 1)), none⟩] [0, 1, 6, 7, 9, 12, 13])
  (.seq (.reg [⟨(some 69), .move (.tmp 9), none⟩,
    ⟨(some 70), .move (.tmp 13), none⟩,
    ⟨(some 71), .call ⟨.value (.func 35), #[(.tmp 69), (.tmp 70)], #[37, 3]⟩, none⟩,
    ⟨(some 13), .assign (.tmp 71), none⟩] [0, 1, 6, 7, 9, 12, 13])
  (.seq (.seq (.reg [⟨(some 72), .move (.tmp 13), none⟩,
    ⟨(some 73), .binOp .lss 3 (.tmp 72) (.const (.int .i64 0)) 3, none⟩] [0, 1, 6, 7, 9, 12, 13, 73])
  (.cond (.tmp 73) (.seq (.reg [⟨(some 4), .assign (.const (.bool false)), none⟩] [4])
  .ret)
  .skip))
  (.seq (.seq (.reg [⟨(some 74), .move (.tmp 13), none⟩,
    ⟨(some 75), .move (.tmp 12), none⟩,
    ⟨(some 76), .binOp .neq 3 (.tmp 74) (.tmp 75) 3, none⟩] [0, 1, 6, 7, 9, 12, 76])
  (.cond (.tmp 76) (.seq (.reg [⟨(some 4), .assign (.const (.bool false)), none⟩] [4])
  .ret)
  .skip))
  (.seq (.reg [⟨(some 78), .move (.tmp 0), none⟩,
    ⟨(some 79), .call ⟨.value (.func 17), #[(.tmp 78)], #[22]⟩, none⟩,
    ⟨(some 80), .move (.tmp 1), none⟩,
    ⟨(some 81), .call ⟨.value (.func 44), #[(.tmp 79), (.tmp 80)], #[25, 3]⟩, none⟩,
    ⟨(some 77), .move (.tmp 81), none⟩,
    ⟨(some 82), .extract (.tmp 77) 0, none⟩,
    ⟨(some 83), .extract (.tmp 77) 1, none⟩,
    ⟨(some 14), .assign (.tmp 82), none⟩,
    ⟨(some 15), .assign (.tmp 83), none⟩] [6, 7, 9, 12, 14, 15])
  (.seq (.seq (.reg [⟨(some 84), .move (.tmp 14), none⟩,
    ⟨(some 85), .move (.tmp 6), none⟩,
    ⟨(some 86), .call ⟨.value (.func 32), #[(.tmp 84), (.tmp 85)], #[37, 37]⟩, none⟩,
    ⟨(some 87), .unOp .not 4 (.tmp 86), none⟩,
    ⟨(some 88), .move (.tmp 87), none⟩,
    ⟨(some 89), .move (.tmp 15), (some (some 88, false))⟩,
    ⟨(some 90), .move (.tmp 7), (some (some 88, false))⟩,
    ⟨(some 91), .binOp .neq 4 (.tmp 89) (.tmp 90) 4, (some (some 88, false))⟩,
    ⟨(some 92), .pick (.tmp 88) (.const (.bool true)) (.tmp 91), none⟩] [9, 12, 92])
  (.cond (.tmp 92) (.seq (.reg [⟨(some 4), .assign (.const (.bool false)), none⟩] [4])
  .ret)
  .skip))
  (.seq (.reg [⟨(some 13), .assign (.const (.int .i64 1)), none⟩] [9, 12, 13])
  (.seq (.reg [⟨(some 93), .move (.tmp 9), none⟩,
    ⟨(some 94), .move (.tmp 13), none⟩,
    ⟨(some 95), .call ⟨.value (.func 35), #[(.tmp 93), (.tmp 94)], #[37, 3]⟩, none⟩,
    ⟨(some 13), .assign (.tmp 95), none⟩] [12, 13])
  (.seq (.seq (.reg [⟨(some 96), .move (.tmp 13), none⟩,
    ⟨(some 97), .binOp .lss 3 (.tmp 96) (.const (.int .i64 0)) 3, none⟩] [12, 13, 97])
  (.cond (.tmp 97) (.seq (.reg [⟨(some 4), .assign (.const (.bool false)), none⟩] [4])
  .ret)
  .skip))
  (.seq (.seq (.reg [⟨(some 98), .move (.tmp 13), none⟩,
    ⟨(some 99), .move (.tmp 12), none⟩,
    ⟨(some 100), .binOp .neq 3 (.tmp 98) (.tmp 99) 3, none⟩] [100])
  (.cond (.tmp 100) (.seq (.reg [⟨(some 4), .assign (.const (.bool false)), none⟩] [4])
  .ret)
  .skip))
  (.seq (.reg [⟨(some 4), .assign (.const (.bool true)), none⟩] [4])
  .ret)))))))))))))))))))))))))
theorem laws_FnExactUniqueTones_k : fnOk Try.prog 13 = some (laws_FnExactUniqueTones_c.strip, 101, [.tmp 4]) := by kernel_rfl
/-- loop.example/g01062/laws.szPrintingS: number 15, params [0, 1] -/
def laws_szPrintingS_c : ACode := (.seq (.reg [⟨(some 4), .assign (.const (.int .i64 0)), none⟩] [0, 1])
  (.seq (.reg [⟨(some 5), .move (.tmp 1), none⟩,
    ⟨(some 6), .move (.tmp 0), none⟩,
    ⟨(some 7), .call ⟨.builtin .len, #[(.tmp 6)], #[22]⟩, none⟩,
    ⟨(some 8), .binOp .sub 3 (.tmp 5) (.tmp 7) 3, none⟩,
    ⟨(some 1), .assign (.tmp 8), none⟩] [1])
  (.seq (.seq (.reg [⟨(some 9), .move (.tmp 1), none⟩,
    ⟨(some 10), .binOp .lss 3 (.tmp 9) (.const (.int .i64 0)) 3, none⟩] [1, 10])
  (.cond (.tmp 10) (.seq (.reg [⟨(some 4), .assign (.const (.int .i64 (-1))), none⟩] [4])
  .ret)
  .skip))
  (.seq (.reg [⟨(some 11), .move (.tmp 1), none⟩,
    ⟨(some 4), .assign (.tmp 11), none⟩] [4])
  .ret))))
theorem laws_szPrintingS_k : fnOk Try.prog 15 = some (laws_szPrintingS_c.strip, 12, [.tmp 4]) := by kernel_rfl
/-- loop.example/g01062/spec.ArePrintings: number 16, params [0] -/
def spec_ArePrintings_c : ACode := (.seq (.reg [⟨(some 2), .assign (.const (.bool false)), none⟩] [0])
  (.seq (.reg [⟨(some 3), .move (.tmp 0), none⟩,
    ⟨(some 4), .call ⟨.value (.func 52), #[(.tmp 3)], #[25]⟩, none⟩,
    ⟨(some 2), .assign (.tmp 4), none⟩] [2])
  .ret))
theorem spec_ArePrintings_k : fnOk Try.prog 16 = some (spec_ArePrintings_c.strip, 5, [.tmp 2]) := by kernel_rfl
/-- head: [0, 3, 4] -/
def laws_toPrintingS_l0 : ACode := (.seq (.seq (.reg [⟨(some 8), .move (.tmp 4), none⟩,
    ⟨(some 9), .move (.tmp 0), none⟩,
    ⟨(some 10), .call ⟨.builtin .len, #[(.tmp 9)], #[22]⟩, none⟩,
    ⟨(some 11), .binOp .lss 3 (.tmp 8) (.tmp 10) 3, none⟩] [0, 3, 4, 11])
  (.cond (.tmp 11) .skip
  (.exit 0)))
  (.seq (.block 1 (.reg [⟨(some 14), .move (.tmp 3), none⟩,
    ⟨(some 15), .move (.tmp 4), none⟩,
    ⟨(some 16), .move (.tmp 0), none⟩,
    ⟨(some 17), .move (.tmp 4), none⟩,
    ⟨(some 18), .indexAddr 22 (.tmp 16) (.tmp 17), none⟩,
    ⟨(some 19), .load 62 (.tmp 18), none⟩,
    ⟨(some 20), .call ⟨.value (.func 53), #[(.tmp 19)], #[62]⟩, none⟩,
    ⟨(some 21), .indexAddr 25 (.tmp 14) (.tmp 15), none⟩,
    ⟨none, .store 56 (.tmp 21) (.tmp 20), none⟩] [0, 3, 4]))
  (.reg [⟨(some 12), .move (.tmp 4), none⟩,
    ⟨(some 13), .binOp .add 3 (.tmp 12) (.const (.int .i64 1)) 3, none⟩,
    ⟨(some 4), .assign (.tmp 13), none⟩] [0, 3, 4])))
/-- loop.example/g01062/laws.toPrintingS: number 17, params [0] -/
def laws_toPrintingS_c : ACode := (.seq (.reg [⟨(some 2), .assign (.const (.slice none 0 0)), none⟩] [0])
  (.seq (.reg [⟨(some 5), .move (.tmp 0), none⟩,
    ⟨(some 6), .call ⟨.builtin .len, #[(.tmp 5)], #[22]⟩, none⟩,
    ⟨(some 7), .makeSlice 25 (.tmp 6) (.tmp 6), none⟩,
    ⟨(some 3), .assign (.tmp 7), none⟩] [0, 3])
  (.seq (.seq (.reg [⟨(some 4), .assign (.const (.int .i64 0)), none⟩] [0, 3, 4])
  (.block 0 (.loop laws_toPrintingS_l0)))
  (.seq (.reg [⟨(some 22), .move (.tmp 3), none⟩,
    ⟨(some 2), .assign (.tmp 22), none⟩] [2])
  .ret))))
theorem laws_toPrintingS_k : fnOk Try.prog 17 = some (laws_toPrintingS_c.strip, 23, [.tmp 2]) := by kernel_rfl
/-- loop.example/g01062/impl.ArePrintings: number 18, params [0] -/
def impl_ArePrintings_c : ACode := (.seq (.reg [⟨(some 2), .assign (.const (.bool false)), none⟩] [0])
  (.seq (.reg [⟨(some 3), .move (.tmp 0), none⟩,
    ⟨(some 4), .call ⟨.value (.func 54), #[(.tmp 3)], #[25]⟩, none⟩,
    ⟨(some 2), .assign (.tmp 4), none⟩] [2])
  .ret))
theorem impl_ArePrintings_k : fnOk Try.prog 18 = some (impl_ArePrintings_c.strip, 5, [.tmp 2]) := by kernel_rfl
/-- head: [0, 1, 5] -/
def laws_eqPrintingS_l0 : ACode := (.seq (.seq (.reg [⟨(some 11), .move (.tmp 5), none⟩,
    ⟨(some 12), .move (.tmp 0), none⟩,
    ⟨(some 13), .call ⟨.builtin .len, #[(.tmp 12)], #[25]⟩, none⟩,
    ⟨(some 14), .binOp .lss 3 (.tmp 11) (.tmp 13) 3, none⟩] [0, 1, 5, 14])
  (.cond (.tmp 14) .skip
  (.exit 0)))
  (.seq (.block 1 (.seq (.regQ [⟨(some 17), .move (.tmp 0), none⟩,
    ⟨(some 18), .move (.tmp 5), none⟩,
    ⟨(some 19), .indexAddr 25 (.tmp 17) (.tmp 18), none⟩,
    ⟨(some 20), .load 56 (.tmp 19), none⟩,
    ⟨(some 21), .move (.tmp 1), none⟩,
    ⟨(some 22), .move (.tmp 5), none⟩,
    ⟨(some 23), .indexAddr 25 (.tmp 21) (.tmp 22), none⟩,
    ⟨(some 24), .load 56 (.tmp 23), none⟩,
    ⟨(some 25), .call ⟨.value (.func 55), #[(.tmp 20), (.tmp 24)], #[56, 56]⟩, none⟩,
    ⟨(some 26), .unOp .not 4 (.tmp 25), none⟩] [0, 1, 5, 26])
  (.cond (.tmp 26) (.seq (.reg [⟨(some 4), .assign (.const (.bool false)), none⟩] [4])
  .ret)
  .skip)))
  (.reg [⟨(some 15), .move (.tmp 5), none⟩,
    ⟨(some 16), .binOp .add 3 (.tmp 15) (.const (.int .i64 1)) 3, none⟩,
    ⟨(some 5), .assign (.tmp 16), none⟩] [0, 1, 5])))
/-- loop.example/g01062/laws.eqPrintingS: number 19, params [0, 1] -/
def laws_eqPrintingS_c : ACode := (.seq (.reg [⟨(some 4), .assign (.const (.bool false)), none⟩] [0, 1])
  (.seq (.seq (.reg [⟨(some 6), .move (.tmp 0), none⟩,
    ⟨(some 7), .call ⟨.builtin .len, #[(.tmp 6)], #[25]⟩, none⟩,
    ⟨(some 8), .move (.tmp 1), none⟩,
    ⟨(some 9), .call ⟨.builtin .len, #[(.tmp 8)], #[25]⟩, none⟩,
    ⟨(some 10), .binOp .neq 3 (.tmp 7) (.tmp 9) 3, none⟩] [0, 1, 10])
  (.cond (.tmp 10) (.seq (.reg [⟨(some 4), .assign (.const (.bool false)), none⟩] [4])
  .ret)
  .skip))
  (.seq (.seq (.reg [⟨(some 5), .assign (.const (.int .i64 0)), none⟩] [0, 1, 5])
  (.block 0 (.loop laws_eqPrintingS_l0)))
  (.seq (.reg [⟨(some 4), .assign (.const (.bool true)), none⟩] [4])
  .ret))))
theorem laws_eqPrintingS_k : fnOk Try.prog 19 = some (laws_eqPrintingS_c.strip, 27, [.tmp 4]) := by kernel_rfl
/-- head: [0, 5, 6, 7] -/
def spec_LongestPause_l0 : ACode := (.seq (.seq (.reg [⟨(some 17), .move (.tmp 7), none⟩,
    ⟨(some 18), .move (.tmp 0), none⟩,
    ⟨(some 19), .call ⟨.builtin .len, #[(.tmp 18)], #[25]⟩, none⟩,
    ⟨(some 20), .binOp .lss 3 (.tmp 17) (.tmp 19) 3, none⟩] [0, 5, 6, 7, 20])
  (.cond (.tmp 20) .skip
  (.exit 0)))
  (.seq (.block 1 (.seq (.regQ [⟨(some 23), .move (.tmp 0), none⟩,
    ⟨(some 24), .move (.tmp 7), none⟩,
    ⟨(some 25), .indexAddr 25 (.tmp 23) (.tmp 24), none⟩,
    ⟨(some 26), .fieldAddr 56 (.tmp 25) 1, none⟩,
    ⟨(some 27), .load 3 (.tmp 26), none⟩,
    ⟨(some 28), .move (.tmp 0), none⟩,
    ⟨(some 29), .move (.tmp 7), none⟩,
    ⟨(some 30), .binOp .sub 3 (.tmp 29) (.const (.int .i64 1)) 3, none⟩,
    ⟨(some 31), .indexAddr 25 (.tmp 28) (.tmp 30), none⟩,
    ⟨(some 32), .fieldAddr 56 (.tmp 31) 1, none⟩,
    ⟨(some 33), .load 3 (.tmp 32), none⟩,
    ⟨(some 34), .binOp .sub 3 (.tmp 27) (.tmp 33) 3, none⟩,
    ⟨(some 8), .assign (.tmp 34), none⟩] [0, 5, 6, 7, 8])
  (.seq (.reg [⟨(some 35), .move (.tmp 8), none⟩,
    ⟨(some 36), .move (.tmp 6), none⟩,
    ⟨(some 37), .binOp .gtr 3 (.tmp 35) (.tmp 36) 3, none⟩] [0, 5, 6, 7, 8, 37])
  (.cond (.tmp 37) (.seq (.reg [⟨(some 38), .move (.tmp 0), none⟩,
    ⟨(some 39), .move (.tmp 7), none⟩,
    ⟨(some 40), .indexAddr 25 (.tmp 38) (.tmp 39), none⟩,
    ⟨(some 41), .fieldAddr 56 (.tmp 40) 0, none⟩,
    ⟨(some 42), .load 3 (.tmp 41), none⟩,
    ⟨(some 5), .assign (.tmp 42), none⟩] [0, 5, 7, 8])
  (.reg [⟨(some 43), .move (.tmp 8), none⟩,
    ⟨(some 6), .assign (.tmp 43), none⟩] [0, 5, 6, 7]))
  .skip))))
  (.reg [⟨(some 21), .move (.tmp 7), none⟩,
    ⟨(some 22), .binOp .add 3 (.tmp 21) (.const (.int .i64 1)) 3, none⟩,
    ⟨(some 7), .assign (.tmp 22), none⟩] [0, 5, 6, 7])))
/-- loop.example/g01062/spec.LongestPause: number 20, params [0] -/
def spec_LongestPause_c : ACode := (.seq (.reg [⟨(some 2), .assign (.const (.int .i64 0)), none⟩,
    ⟨(some 3), .assign (.const (.int .i64 0)), none⟩,
    ⟨(some 4), .assign (.const (.bool false)), none⟩] [0])
  (.seq (.seq (.reg [⟨(some 9), .move (.tmp 0), none⟩,
    ⟨(some 10), .call ⟨.value (.func 52), #[(.tmp 9)], #[25]⟩, none⟩,
    ⟨(some 11), .unOp .not 4 (.tmp 10), none⟩,
    ⟨(some 12), .move (.tmp 11), none⟩,
    ⟨(some 13), .move (.tmp 0), (some (some 12, false))⟩,
    ⟨(some 14), .call ⟨.builtin .len, #[(.tmp 13)], #[25]⟩, (some (some 12, false))⟩,
    ⟨(some 15), .binOp .lss 3 (.tmp 14) (.const (.int .i64 2)) 3, (some (some 12, false))⟩,
    ⟨(some 16), .pick (.tmp 12) (.const (.bool true)) (.tmp 15), none⟩] [0, 16])
  (.cond (.tmp 16) (.seq (.reg [⟨(some 2), .assign (.const (.int .i64 0)), none⟩,
    ⟨(some 3), .assign (.const (.int .i64 0)), none⟩,
    ⟨(some 4), .assign (.const (.bool false)), none⟩] [2, 3, 4])
  .ret)
  .skip))
  (.seq (.reg [⟨(some 5), .assign (.const (.int .i64 0)), none⟩,
    ⟨(some 6), .assign (.const (.int .i64 0)), none⟩] [0, 5, 6])
  (.seq (.seq (.reg [⟨(some 7), .assign (.const (.int .i64 1)), none⟩] [0, 5, 6, 7])
  (.block 0 (.loop spec_LongestPause_l0)))
  (.seq (.reg [⟨(some 44), .move (.tmp 5), none⟩,
    ⟨(some 45), .move (.tmp 6), none⟩,
    ⟨(some 2), .assign (.tmp 44), none⟩,
    ⟨(some 3), .assign (.tmp 45), none⟩,
    ⟨(some 4), .assign (.const (.bool true)), none⟩] [2, 3, 4])
  .ret)))))
theorem spec_LongestPause_k : fnOk Try.prog 20 = some (spec_LongestPause_c.strip, 46, [.tmp 2, .tmp 3, .tmp 4]) := by kernel_rfl
/-- head: [0, 5, 6, 19, 20, 21] -/
def impl_LongestPause_l0 : ACode := (.seq (.reg [⟨(some 22), .binOp .lss 3 (.tmp 21) (.tmp 20) 3, none⟩] [0, 5, 6, 19, 20, 21, 22])
  (.seq (.cond (.tmp 22) .skip
  (.exit 0))
  (.seq (.block 1 (.seq (.reg [⟨(some 23), .move (.tmp 21), none⟩,
    ⟨(some 24), .indexAddr 25 (.tmp 19) (.tmp 21), none⟩,
    ⟨(some 25), .load 56 (.tmp 24), none⟩,
    ⟨(some 8), .alloc 56, none⟩,
    ⟨(some 7), .assign (.tmp 23), none⟩,
    ⟨none, .store 56 (.tmp 8) (.tmp 25), none⟩] [0, 5, 6, 7, 8, 19, 20, 21])
  (.seq (.regQ [⟨(some 26), .fieldAddr 56 (.tmp 8) 1, none⟩,
    ⟨(some 27), .load 3 (.tmp 26), none⟩,
    ⟨(some 28), .move (.tmp 0), none⟩,
    ⟨(some 29), .move (.tmp 7), none⟩,
    ⟨(some 30), .indexAddr 25 (.tmp 28) (.tmp 29), none⟩,
    ⟨(some 31), .fieldAddr 56 (.tmp 30) 1, none⟩,
    ⟨(some 32), .load 3 (.tmp 31), none⟩,
    ⟨(some 33), .binOp .sub 3 (.tmp 27) (.tmp 32) 3, none⟩,
    ⟨(some 9), .assign (.tmp 33), none⟩] [0, 5, 6, 8, 9, 19, 20, 21])
  (.seq (.reg [⟨(some 34), .move (.tmp 9), none⟩,
    ⟨(some 35), .move (.tmp 6), none⟩,
    ⟨(some 36), .binOp .gtr 3 (.tmp 34) (.tmp 35) 3, none⟩] [0, 5, 6, 8, 9, 19, 20, 21, 36])
  (.cond (.tmp 36) (.reg [⟨(some 37), .fieldAddr 56 (.tmp 8) 0, none⟩,
    ⟨(some 38), .load 3 (.tmp 37), none⟩,
    ⟨(some 39), .move (.tmp 9), none⟩,
    ⟨(some 5), .assign (.tmp 38), none⟩,
    ⟨(some 6), .assign (.tmp 39), none⟩] [0, 5, 6, 19, 20, 21])
  .skip)))))
  (.reg [⟨(some 40), .binOp .add 3 (.tmp 21) (.const (.int .i64 1)) 3, none⟩,
    ⟨(some 21), .move (.tmp 40), none⟩] [0, 5, 6, 19, 20, 21]))))
/-- loop.example/g01062/impl.LongestPause: number 21, params [0] -/
def impl_LongestPause_c : ACode := (.seq (.reg [⟨(some 2), .assign (.const (.int .i64 0)), none⟩,
    ⟨(some 3), .assign (.const (.int .i64 0)), none⟩,
    ⟨(some 4), .assign (.const (.bool false)), none⟩] [0])
  (.seq (.seq (.reg [⟨(some 10), .move (.tmp 0), none⟩,
    ⟨(some 11), .call ⟨.value (.func 54), #[(.tmp 10)], #[25]⟩, none⟩,
    ⟨(some 12), .unOp .not 4 (.tmp 11), none⟩,
    ⟨(some 13), .move (.tmp 12), none⟩,
    ⟨(some 14), .move (.tmp 0), (some (some 13, false))⟩,
    ⟨(some 15), .call ⟨.builtin .len, #[(.tmp 14)], #[25]⟩, (some (some 13, false))⟩,
    ⟨(some 16), .binOp .lss 3 (.tmp 15) (.const (.int .i64 2)) 3, (some (some 13, false))⟩,
    ⟨(some 17), .pick (.tmp 13) (.const (.bool true)) (.tmp 16), none⟩] [0, 17])
  (.cond (.tmp 17) (.seq (.reg [⟨(some 2), .assign (.const (.int .i64 0)), none⟩,
    ⟨(some 3), .assign (.const (.int .i64 0)), none⟩,
    ⟨(some 4), .assign (.const (.bool false)), none⟩] [2, 3, 4])
  .ret)
  .skip))
  (.seq (.reg [⟨(some 5), .assign (.const (.int .i64 0)), none⟩,
    ⟨(some 6), .assign (.const (.int .i64 0)), none⟩] [0, 5, 6])
  (.seq (.seq (.reg [⟨(some 18), .move (.tmp 0), none⟩,
    ⟨(some 19), .slice 25 (.tmp 18) (some (.const (.int .i64 1))) none none, none⟩,
    ⟨(some 20), .call ⟨.builtin .len, #[(.tmp 19)], #[25]⟩, none⟩,
    ⟨(some 21), .move (.const (.int .i64 0)), none⟩] [0, 5, 6, 19, 20, 21])
  (.block 0 (.loop impl_LongestPause_l0)))
  (.seq (.reg [⟨(some 41), .move (.tmp 5), none⟩,
    ⟨(some 42), .move (.tmp 6), none⟩,
    ⟨(some 2), .assign (.tmp 41), none⟩,
    ⟨(some 3), .assign (.tmp 42), none⟩,
    ⟨(some 4), .assign (.const (.bool true)), none⟩] [2, 3, 4])
  .ret)))))
theorem impl_LongestPause_k : fnOk Try.prog 21 = some (impl_LongestPause_c.strip, 43, [.tmp 2, .tmp 3, .tmp 4]) := by kernel_rfl
/-- head: [0, 4, 5, 6] -/
def spec_RarestPrinting_l0 : ACode := (.seq (.seq (.reg [⟨(some 15), .move (.tmp 6), none⟩,
    ⟨(some 16), .move (.tmp 0), none⟩,
    ⟨(some 17), .call ⟨.builtin .len, #[(.tmp 16)], #[25]⟩, none⟩,
    ⟨(some 18), .binOp .lss 3 (.tmp 15) (.tmp 17) 3, none⟩] [0, 4, 5, 6, 18])
  (.cond (.tmp 18) .skip
  (.exit 0)))
  (.seq (.block 1 (.seq (.reg [⟨(some 21), .move (.tmp 0), none⟩,
    ⟨(some 22), .move (.tmp 6), none⟩,
    ⟨(some 23), .indexAddr 25 (.tmp 21) (.tmp 22), none⟩,
    ⟨(some 24), .fieldAddr 56 (.tmp 23) 2, none⟩,
    ⟨(some 25), .load 3 (.tmp 24), none⟩,
    ⟨(some 26), .move (.tmp 5), none⟩,
    ⟨(some 27), .binOp .lss 3 (.tmp 25) (.tmp 26) 3, none⟩] [0, 4, 5, 6, 27])
  (.cond (.tmp 27) (.seq (.reg [⟨(some 28), .move (.tmp 0), none⟩,
    ⟨(some 29), .move (.tmp 6), none⟩,
    ⟨(some 30), .indexAddr 25 (.tmp 28) (.tmp 29), none⟩,
    ⟨(some 31), .fieldAddr 56 (.tmp 30) 0, none⟩,
    ⟨(some 32), .load 3 (.tmp 31), none⟩,
    ⟨(some 4), .assign (.tmp 32), none⟩] [0, 4, 6])
  (.reg [⟨(some 33), .move (.tmp 0), none⟩,
    ⟨(some 34), .move (.tmp 6), none⟩,
    ⟨(some 35), .indexAddr 25 (.tmp 33) (.tmp 34), none⟩,
    ⟨(some 36), .fieldAddr 56 (.tmp 35) 2, none⟩,
    ⟨(some 37), .load 3 (.tmp 36), none⟩,
    ⟨(some 5), .assign (.tmp 37), none⟩] [0, 4, 5, 6]))
  .skip)))
  (.reg [⟨(some 19), .move (.tmp 6), none⟩,
    ⟨(some 20), .binOp .add 3 (.tmp 19) (.const (.int .i64 1)) 3, none⟩,
    ⟨(some 6), .assign (.tmp 20), none⟩] [0, 4, 5, 6])))
/-- loop.example/g01062/spec.RarestPrinting: number 22, params [0] -/
def spec_RarestPrinting_c : ACode := (.seq (.reg [⟨(some 2), .assign (.const (.int .i64 0)), none⟩,
    ⟨(some 3), .assign (.const (.bool false)), none⟩] [0])
  (.seq (.seq (.reg [⟨(some 7), .move (.tmp 0), none⟩,
    ⟨(some 8), .call ⟨.value (.func 52), #[(.tmp 7)], #[25]⟩, none⟩,
    ⟨(some 9), .unOp .not 4 (.tmp 8), none⟩,
    ⟨(some 10), .move (.tmp 9), none⟩,
    ⟨(some 11), .move (.tmp 0), (some (some 10, false))⟩,
    ⟨(some 12), .call ⟨.builtin .len, #[(.tmp 11)], #[25]⟩, (some (some 10, false))⟩,
    ⟨(some 13), .binOp .eql 3 (.tmp 12) (.const (.int .i64 0)) 3, (some (some 10, false))⟩,
    ⟨(some 14), .pick (.tmp 10) (.const (.bool true)) (.tmp 13), none⟩] [0, 14])
  (.cond (.tmp 14) (.seq (.reg [⟨(some 2), .assign (.const (.int .i64 0)), none⟩,
    ⟨(some 3), .assign (.const (.bool false)), none⟩] [2, 3])
  .ret)
  .skip))
  (.seq (.reg [⟨(some 4), .assign (.const (.int .i64 0)), none⟩,
    ⟨(some 5), .assign (.const (.int .i64 10000)), none⟩] [0, 4, 5])
  (.seq (.seq (.reg [⟨(some 6), .assign (.const (.int .i64 0)), none⟩] [0, 4, 5, 6])
  (.block 0 (.loop spec_RarestPrinting_l0)))
  (.seq (.reg [⟨(some 38), .move (.tmp 4), none⟩,
    ⟨(some 2), .assign (.tmp 38), none⟩,
    ⟨(some 3), .assign (.const (.bool true)), none⟩] [2, 3])
  .ret)))))
theorem spec_RarestPrinting_k : fnOk Try.prog 22 = some (spec_RarestPrinting_c.strip, 39, [.tmp 2, .tmp 3]) := by kernel_rfl
/-- head: [4, 18, 19, 20] -/
def impl_RarestPrinting_l0 : ACode := (.seq (.reg [⟨(some 21), .binOp .lss 3 (.tmp 20) (.tmp 19) 3, none⟩] [4, 18, 19, 20, 21])
  (.seq (.cond (.tmp 21) .skip
  (.exit 0))
  (.seq (.block 1 (.seq (.reg [⟨(some 22), .indexAddr 25 (.tmp 18) (.tmp 20), none⟩,
    ⟨(some 23), .load 56 (.tmp 22), none⟩,
    ⟨(some 6), .alloc 56, none⟩,
    ⟨none, .store 56 (.tmp 6) (.tmp 23), none⟩] [4, 6, 18, 19, 20])
  (.seq (.reg [⟨(some 24), .fieldAddr 56 (.tmp 6) 2, none⟩,
    ⟨(some 25), .load 3 (.tmp 24), none⟩,
    ⟨(some 26), .fieldAddr 56 (.tmp 4) 2, none⟩,
    ⟨(some 27), .load 3 (.tmp 26), none⟩,
    ⟨(some 28), .binOp .lss 3 (.tmp 25) (.tmp 27) 3, none⟩] [4, 6, 18, 19, 20, 28])
  (.cond (.tmp 28) (.reg [⟨(some 29), .load 56 (.tmp 6), none⟩,
    ⟨none, .store 56 (.tmp 4) (.tmp 29), none⟩] [4, 18, 19, 20])
  .skip))))
  (.reg [⟨(some 30), .binOp .add 3 (.tmp 20) (.const (.int .i64 1)) 3, none⟩,
    ⟨(some 20), .move (.tmp 30), none⟩] [4, 18, 19, 20]))))
/-- loop.example/g01062/impl.RarestPrinting: number 23, params [0] -/
def impl_RarestPrinting_c : ACode := (.seq (.reg [⟨(some 2), .assign (.const (.int .i64 0)), none⟩,
    ⟨(some 3), .assign (.const (.bool false)), none⟩] [0])
  (.seq (.seq (.reg [⟨(some 7), .move (.tmp 0), none⟩,
    ⟨(some 8), .call ⟨.value (.func 54), #[(.tmp 7)], #[25]⟩, none⟩,
    ⟨(some 9), .unOp .not 4 (.tmp 8), none⟩,
    ⟨(some 10), .move (.tmp 9), none⟩,
    ⟨(some 11), .move (.tmp 0), (some (some 10, false))⟩,
    ⟨(some 12), .call ⟨.builtin .len, #[(.tmp 11)], #[25]⟩, (some (some 10, false))⟩,
    ⟨(some 13), .binOp .eql 3 (.tmp 12) (.const (.int .i64 0)) 3, (some (some 10, false))⟩,
    ⟨(some 14), .pick (.tmp 10) (.const (.bool true)) (.tmp 13), none⟩] [0, 14])
  (.cond (.tmp 14) (.seq (.reg [⟨(some 2), .assign (.const (.int .i64 0)), none⟩,
    ⟨(some 3), .assign (.const (.bool false)), none⟩] [2, 3])
  .ret)
  .skip))
  (.seq (.reg [⟨(some 15), .move (.tmp 0), none⟩,
    ⟨(some 16), .indexAddr 25 (.tmp 15) (.const (.int .i64 0)), none⟩,
    ⟨(some 17), .load 56 (.tmp 16), none⟩,
    ⟨(some 4), .alloc 56, none⟩,
    ⟨none, .store 56 (.tmp 4) (.tmp 17), none⟩] [0, 4])
  (.seq (.seq (.reg [⟨(some 18), .move (.tmp 0), none⟩,
    ⟨(some 19), .call ⟨.builtin .len, #[(.tmp 18)], #[25]⟩, none⟩,
    ⟨(some 20), .move (.const (.int .i64 0)), none⟩] [4, 18, 19, 20])
  (.block 0 (.loop impl_RarestPrinting_l0)))
  (.seq (.reg [⟨(some 31), .fieldAddr 56 (.tmp 4) 0, none⟩,
    ⟨(some 32), .load 3 (.tmp 31), none⟩,
    ⟨(some 2), .assign (.tmp 32), none⟩,
    ⟨(some 3), .assign (.const (.bool true)), none⟩] [2, 3])
  .ret)))))
theorem impl_RarestPrinting_k : fnOk Try.prog 23 = some (impl_RarestPrinting_c.strip, 33, [.tmp 2, .tmp 3]) := by kernel_rfl
/-- head: [0, 1, 2, 8, 9] -/
def spec_StampsUntil_l0 : ACode := (.seq (.seq (.reg [⟨(some 23), .move (.tmp 9), none⟩,
    ⟨(some 24), .move (.tmp 0), none⟩,
    ⟨(some 25), .call ⟨.builtin .len, #[(.tmp 24)], #[25]⟩, none⟩,
    ⟨(some 26), .binOp .lss 3 (.tmp 23) (.tmp 25) 3, none⟩] [0, 1, 2, 8, 9, 26])
  (.cond (.tmp 26) .skip
  (.exit 0)))
  (.seq (.block 1 (.seq (.reg [⟨(some 29), .move (.tmp 8), none⟩,
    ⟨(some 30), .move (.tmp 0), none⟩,
    ⟨(some 31), .move (.tmp 9), none⟩,
    ⟨(some 32), .indexAddr 25 (.tmp 30) (.tmp 31), none⟩,
    ⟨(some 33), .fieldAddr 56 (.tmp 32) 2, none⟩,
    ⟨(some 34), .load 3 (.tmp 33), none⟩,
    ⟨(some 35), .move (.tmp 1), none⟩,
    ⟨(some 36), .binOp .mul 3 (.tmp 34) (.tmp 35) 3, none⟩,
    ⟨(some 37), .binOp .add 3 (.tmp 29) (.tmp 36) 3, none⟩,
    ⟨(some 8), .assign (.tmp 37), none⟩] [0, 1, 2, 8, 9])
  (.seq (.reg [⟨(some 38), .move (.tmp 8), none⟩,
    ⟨(some 39), .move (.tmp 2), none⟩,
    ⟨(some 40), .binOp .geq 3 (.tmp 38) (.tmp 39) 3, none⟩] [0, 1, 2, 8, 9, 40])
  (.cond (.tmp 40) (.seq (.reg [⟨(some 41), .move (.tmp 0), none⟩,
    ⟨(some 42), .move (.tmp 9), none⟩,
    ⟨(some 43), .indexAddr 25 (.tmp 41) (.tmp 42), none⟩,
    ⟨(some 44), .fieldAddr 56 (.tmp 43) 0, none⟩,
    ⟨(some 45), .load 3 (.tmp 44), none⟩,
    ⟨(some 6), .assign (.tmp 45), none⟩,
    ⟨(some 7), .assign (.const (.bool true)), none⟩] [6, 7])
  .ret)
  .skip))))
  (.reg [⟨(some 27), .move (.tmp 9), none⟩,
    ⟨(some 28), .binOp .add 3 (.tmp 27) (.const (.int .i64 1)) 3, none⟩,
    ⟨(some 9), .assign (.tmp 28), none⟩] [0, 1, 2, 8, 9])))
/-- loop.example/g01062/spec.StampsUntil: number 24, params [0, 1, 2] -/
def spec_StampsUntil_c : ACode := (.seq (.reg [⟨(some 6), .assign (.const (.int .i64 0)), none⟩,
    ⟨(some 7), .assign (.const (.bool false)), none⟩] [0, 1, 2])
  (.seq (.seq (.reg [⟨(some 10), .move (.tmp 0), none⟩,
    ⟨(some 11), .call ⟨.value (.func 52), #[(.tmp 10)], #[25]⟩, none⟩,
    ⟨(some 12), .unOp .not 4 (.tmp 11), none⟩,
    ⟨(some 13), .move (.tmp 12), none⟩,
    ⟨(some 14), .move (.tmp 1), (some (some 13, false))⟩,
    ⟨(some 15), .call ⟨.value (.func 56), #[(.tmp 14), (.const (.int .i64 1)), (.const (.int .i64 400))], #[3, 3, 3]⟩, (some (some 13, false))⟩,
    ⟨(some 16), .unOp .not 4 (.tmp 15), (some (some 13, false))⟩,
    ⟨(some 17), .pick (.tmp 13) (.const (.bool true)) (.tmp 16), none⟩,
    ⟨(some 18), .move (.tmp 17), none⟩,
    ⟨(some 19), .move (.tmp 2), (some (some 18, false))⟩,
    ⟨(some 20), .call ⟨.value (.func 56), #[(.tmp 19), (.const (.int .i64 1)), (.const (.int .i64 50000000))], #[3, 3, 3]⟩, (some (some 18, false))⟩,
    ⟨(some 21), .unOp .not 4 (.tmp 20), (some (some 18, false))⟩,
    ⟨(some 22), .pick (.tmp 18) (.const (.bool true)) (.tmp 21), none⟩] [0, 1, 2, 22])
  (.cond (.tmp 22) (.seq (.reg [⟨(some 6), .assign (.const (.int .i64 0)), none⟩,
    ⟨(some 7), .assign (.const (.bool false)), none⟩] [6, 7])
  .ret)
  .skip))
  (.seq (.reg [⟨(some 8), .assign (.const (.int .i64 0)), none⟩] [0, 1, 2, 8])
  (.seq (.seq (.reg [⟨(some 9), .assign (.const (.int .i64 0)), none⟩] [0, 1, 2, 8, 9])
  (.block 0 (.loop spec_StampsUntil_l0)))
  (.seq (.reg [⟨(some 6), .assign (.const (.int .i64 0)), none⟩,
    ⟨(some 7), .assign (.const (.bool false)), none⟩] [6, 7])
  .ret)))))
theorem spec_StampsUntil_k : fnOk Try.prog 24 = some (spec_StampsUntil_c.strip, 46, [.tmp 6, .tmp 7]) := by kernel_rfl
/-- head: [1, 2, 8, 24, 25, 26] -/
def impl_StampsUntil_l0 : ACode := (.seq (.reg [⟨(some 27), .binOp .lss 3 (.tmp 26) (.tmp 25) 3, none⟩] [1, 2, 8, 24, 25, 26, 27])
  (.seq (.cond (.tmp 27) .skip
  (.exit 0))
  (.seq (.block 1 (.seq (.reg [⟨(some 28), .indexAddr 25 (.tmp 24) (.tmp 26), none⟩,
    ⟨(some 29), .load 56 (.tmp 28), none⟩,
    ⟨(some 10), .alloc 56, none⟩,
    ⟨none, .store 56 (.tmp 10) (.tmp 29), none⟩] [1, 2, 8, 10, 24, 25, 26])
  (.seq (.reg [⟨(some 30), .move (.tmp 8), none⟩,
    ⟨(some 31), .move (.tmp 1), none⟩,
    ⟨(some 32), .fieldAddr 56 (.tmp 10) 2, none⟩,
    ⟨(some 33), .load 3 (.tmp 32), none⟩,
    ⟨(some 34), .binOp .mul 3 (.tmp 31) (.tmp 33) 3, none⟩,
    ⟨(some 35), .binOp .add 3 (.tmp 30) (.tmp 34) 3, none⟩,
    ⟨(some 8), .assign (.tmp 35), none⟩] [1, 2, 8, 10, 24, 25, 26])
  (.seq (.reg [⟨(some 36), .move (.tmp 8), none⟩,
    ⟨(some 37), .move (.tmp 2), none⟩,
    ⟨(some 38), .binOp .geq 3 (.tmp 36) (.tmp 37) 3, none⟩] [1, 2, 8, 10, 24, 25, 26, 38])
  (.cond (.tmp 38) (.seq (.reg [⟨(some 39), .fieldAddr 56 (.tmp 10) 0, none⟩,
    ⟨(some 40), .load 3 (.tmp 39), none⟩,
    ⟨(some 6), .assign (.tmp 40), none⟩,
    ⟨(some 7), .assign (.const (.bool true)), none⟩] [6, 7])
  .ret)
  .skip)))))
  (.reg [⟨(some 41), .binOp .add 3 (.tmp 26) (.const (.int .i64 1)) 3, none⟩,
    ⟨(some 26), .move (.tmp 41), none⟩] [1, 2, 8, 24, 25, 26]))))
/-- loop.example/g01062/impl.StampsUntil: number 25, params [0, 1, 2] -/
def impl_StampsUntil_c : ACode := (.seq (.reg [⟨(some 6), .assign (.const (.int .i64 0)), none⟩,
    ⟨(some 7), .assign (.const (.bool false)), none⟩] [0, 1, 2])
  (.seq (.seq (.reg [⟨(some 11), .move (.tmp 0), none⟩,
    ⟨(some 12), .call ⟨.value (.func 54), #[(.tmp 11)], #[25]⟩, none⟩,
    ⟨(some 13), .unOp .not 4 (.tmp 12), none⟩,
    ⟨(some 14), .move (.tmp 13), none⟩,
    ⟨(some 15), .move (.tmp 1), (some (some 14, false))⟩,
    ⟨(some 16), .call ⟨.value (.func 57), #[(.tmp 15), (.const (.int .i64 1)), (.const (.int .i64 400))], #[3, 3, 3]⟩, (some (some 14, false))⟩,
    ⟨(some 17), .unOp .not 4 (.tmp 16), (some (some 14, false))⟩,
    ⟨(some 18), .pick (.tmp 14) (.const (.bool true)) (.tmp 17), none⟩,
    ⟨(some 19), .move (.tmp 18), none⟩,
    ⟨(some 20), .move (.tmp 2), (some (some 19, false))⟩,
    ⟨(some 21), .call ⟨.value (.func 57), #[(.tmp 20), (.const (.int .i64 1)), (.const (.int .i64 50000000))], #[3, 3, 3]⟩, (some (some 19, false))⟩,
    ⟨(some 22), .unOp .not 4 (.tmp 21), (some (some 19, false))⟩,
    ⟨(some 23), .pick (.tmp 19) (.const (.bool true)) (.tmp 22), none⟩] [0, 1, 2, 23])
  (.cond (.tmp 23) (.seq (.reg [⟨(some 6), .assign (.const (.int .i64 0)), none⟩,
    ⟨(some 7), .assign (.const (.bool false)), none⟩] [6, 7])
  .ret)
  .skip))
  (.seq (.reg [⟨(some 8), .assign (.const (.int .i64 0)), none⟩] [0, 1, 2, 8])
  (.seq (.seq (.reg [⟨(some 24), .move (.tmp 0), none⟩,
    ⟨(some 25), .call ⟨.builtin .len, #[(.tmp 24)], #[25]⟩, none⟩,
    ⟨(some 26), .move (.const (.int .i64 0)), none⟩] [1, 2, 8, 24, 25, 26])
  (.block 0 (.loop impl_StampsUntil_l0)))
  (.seq (.reg [⟨(some 6), .assign (.const (.int .i64 0)), none⟩,
    ⟨(some 7), .assign (.const (.bool false)), none⟩] [6, 7])
  .ret)))))
theorem impl_StampsUntil_k : fnOk Try.prog 25 = some (impl_StampsUntil_c.strip, 42, [.tmp 6, .tmp 7]) := by kernel_rfl
/-- head: [0, 1, 6] -/
def spec_EarliestUse_l0 : ACode := (.seq (.seq (.reg [⟨(some 15), .move (.tmp 6), none⟩,
    ⟨(some 16), .move (.tmp 0), none⟩,
    ⟨(some 17), .call ⟨.builtin .len, #[(.tmp 16)], #[25]⟩, none⟩,
    ⟨(some 18), .binOp .lss 3 (.tmp 15) (.tmp 17) 3, none⟩] [0, 1, 6, 18])
  (.cond (.tmp 18) .skip
  (.exit 0)))
  (.seq (.block 1 (.seq (.reg [⟨(some 21), .move (.tmp 0), none⟩,
    ⟨(some 22), .move (.tmp 6), none⟩,
    ⟨(some 23), .indexAddr 25 (.tmp 21) (.tmp 22), none⟩,
    ⟨(some 24), .load 56 (.tmp 23), none⟩,
    ⟨(some 25), .move (.tmp 1), none⟩,
    ⟨(some 26), .call ⟨.value (.func 59), #[(.tmp 24), (.tmp 25)], #[56, 3]⟩, none⟩] [0, 1, 6, 26])
  (.cond (.tmp 26) (.seq (.reg [⟨(some 27), .move (.tmp 0), none⟩,
    ⟨(some 28), .move (.tmp 6), none⟩,
    ⟨(some 29), .indexAddr 25 (.tmp 27) (.tmp 28), none⟩,
    ⟨(some 30), .fieldAddr 56 (.tmp 29) 1, none⟩,
    ⟨(some 31), .load 3 (.tmp 30), none⟩,
    ⟨(some 4), .assign (.tmp 31), none⟩,
    ⟨(some 5), .assign (.const (.bool true)), none⟩] [4, 5])
  .ret)
  .skip)))
  (.reg [⟨(some 19), .move (.tmp 6), none⟩,
    ⟨(some 20), .binOp .add 3 (.tmp 19) (.const (.int .i64 1)) 3, none⟩,
    ⟨(some 6), .assign (.tmp 20), none⟩] [0, 1, 6])))
/-- loop.example/g01062/spec.EarliestUse: number 26, params [0, 1] -/
def spec_EarliestUse_c : ACode := (.seq (.reg [⟨(some 4), .assign (.const (.int .i64 0)), none⟩,
    ⟨(some 5), .assign (.const (.bool false)), none⟩] [0, 1])
  (.seq (.seq (.reg [⟨(some 7), .move (.tmp 0), none⟩,
    ⟨(some 8), .call ⟨.value (.func 52), #[(.tmp 7)], #[25]⟩, none⟩,
    ⟨(some 9), .unOp .not 4 (.tmp 8), none⟩,
    ⟨(some 10), .move (.tmp 9), none⟩,
    ⟨(some 11), .move (.tmp 1), (some (some 10, false))⟩,
    ⟨(some 12), .call ⟨.value (.func 58), #[(.tmp 11)], #[3]⟩, (some (some 10, false))⟩,
    ⟨(some 13), .unOp .not 4 (.tmp 12), (some (some 10, false))⟩,
    ⟨(some 14), .pick (.tmp 10) (.const (.bool true)) (.tmp 13), none⟩] [0, 1, 14])
  (.cond (.tmp 14) (.seq (.reg [⟨(some 4), .assign (.const (.int .i64 0)), none⟩,
    ⟨(some 5), .assign (.const (.bool false)), none⟩] [4, 5])
  .ret)
  .skip))
  (.seq (.seq (.reg [⟨(some 6), .assign (.const (.int .i64 0)), none⟩] [0, 1, 6])
  (.block 0 (.loop spec_EarliestUse_l0)))
  (.seq (.reg [⟨(some 4), .assign (.const (.int .i64 0)), none⟩,
    ⟨(some 5), .assign (.const (.bool false)), none⟩] [4, 5])
  .ret))))
theorem spec_EarliestUse_k : fnOk Try.prog 26 = some (spec_EarliestUse_c.strip, 32, [.tmp 4, .tmp 5]) := by kernel_rfl
/-- head: [1, 16, 17, 18] -/
def impl_EarliestUse_l0 : ACode := (.seq (.reg [⟨(some 19), .binOp .lss 3 (.tmp 18) (.tmp 17) 3, none⟩] [1, 16, 17, 18, 19])
  (.seq (.cond (.tmp 19) .skip
  (.exit 0))
  (.seq (.block 1 (.seq (.reg [⟨(some 20), .indexAddr 25 (.tmp 16) (.tmp 18), none⟩,
    ⟨(some 21), .load 56 (.tmp 20), none⟩,
    ⟨(some 7), .alloc 56, none⟩,
    ⟨none, .store 56 (.tmp 7) (.tmp 21), none⟩] [1, 7, 16, 17, 18])
  (.seq (.reg [⟨(some 22), .load 56 (.tmp 7), none⟩,
    ⟨(some 23), .move (.tmp 1), none⟩,
    ⟨(some 24), .call ⟨.value (.func 61), #[(.tmp 22), (.tmp 23)], #[56, 3]⟩, none⟩] [1, 7, 16, 17, 18, 24])
  (.cond (.tmp 24) (.seq (.reg [⟨(some 25), .fieldAddr 56 (.tmp 7) 1, none⟩,
    ⟨(some 26), .load 3 (.tmp 25), none⟩,
    ⟨(some 4), .assign (.tmp 26), none⟩,
    ⟨(some 5), .assign (.const (.bool true)), none⟩] [4, 5])
  .ret)
  .skip))))
  (.reg [⟨(some 27), .binOp .add 3 (.tmp 18) (.const (.int .i64 1)) 3, none⟩,
    ⟨(some 18), .move (.tmp 27), none⟩] [1, 16, 17, 18]))))
/-- loop.example/g01062/impl.EarliestUse: number 27, params [0, 1] -/
def impl_EarliestUse_c : ACode := (.seq (.reg [⟨(some 4), .assign (.const (.int .i64 0)), none⟩,
    ⟨(some 5), .assign (.const (.bool false)), none⟩] [0, 1])
  (.seq (.seq (.reg [⟨(some 8), .move (.tmp 0), none⟩,
    ⟨(some 9), .call ⟨.value (.func 54), #[(.tmp 8)], #[25]⟩, none⟩,
    ⟨(some 10), .unOp .not 4 (.tmp 9), none⟩,
    ⟨(some 11), .move (.tmp 10), none⟩,
    ⟨(some 12), .move (.tmp 1), (some (some 11, false))⟩,
    ⟨(some 13), .call ⟨.value (.func 60), #[(.tmp 12)], #[3]⟩, (some (some 11, false))⟩,
    ⟨(some 14), .unOp .not 4 (.tmp 13), (some (some 11, false))⟩,
    ⟨(some 15), .pick (.tmp 11) (.const (.bool true)) (.tmp 14), none⟩] [0, 1, 15])
  (.cond (.tmp 15) (.seq (.reg [⟨(some 4), .assign (.const (.int .i64 0)), none⟩,
    ⟨(some 5), .assign (.const (.bool false)), none⟩] [4, 5])
  .ret)
  .skip))
  (.seq (.seq (.reg [⟨(some 16), .move (.tmp 0), none⟩,
    ⟨(some 17), .call ⟨.builtin .len, #[(.tmp 16)], #[25]⟩, none⟩,
    ⟨(some 18), .move (.const (.int .i64 0)), none⟩] [1, 16, 17, 18])
  (.block 0 (.loop impl_EarliestUse_l0)))
  (.seq (.reg [⟨(some 4), .assign (.const (.int .i64 0)), none⟩,
    ⟨(some 5), .assign (.const (.bool false)), none⟩] [4, 5])
  .ret))))
theorem impl_EarliestUse_k : fnOk Try.prog 27 = some (impl_EarliestUse_c.strip, 28, [.tmp 4, .tmp 5]) := by kernel_rfl
/-- loop.example/g01062/spec.SheetsBy: number 28, params [0, 1] -/
def spec_SheetsBy_c : ACode := (.seq (.reg [⟨(some 4), .assign (.const (.int .i64 0)), none⟩,
    ⟨(some 5), .assign (.const (.bool false)), none⟩] [0, 1])
  (.seq (.seq (.reg [⟨(some 6), .move (.tmp 0), none⟩,
    ⟨(some 7), .call ⟨.value (.func 52), #[(.tmp 6)], #[25]⟩, none⟩,
    ⟨(some 8), .unOp .not 4 (.tmp 7), none⟩,
    ⟨(some 9), .move (.tmp 8), none⟩,
    ⟨(some 10), .move (.tmp 1), (some (some 9, false))⟩,
    ⟨(some 11), .call ⟨.value (.func 62), #[(.tmp 10)], #[3]⟩, (some (some 9, false))⟩,
    ⟨(some 12), .unOp .not 4 (.tmp 11), (some (some 9, false))⟩,
    ⟨(some 13), .pick (.tmp 9) (.const (.bool true)) (.tmp 12), none⟩] [0, 1, 13])
  (.cond (.tmp 13) (.seq (.reg [⟨(some 4), .assign (.const (.int .i64 0)), none⟩,
    ⟨(some 5), .assign (.const (.bool false)), none⟩] [4, 5])
  .ret)
  .skip))
  (.seq (.reg [⟨(some 14), .move (.tmp 0), none⟩,
    ⟨(some 15), .move (.tmp 1), none⟩,
    ⟨(some 16), .call ⟨.value (.func 63), #[(.tmp 14), (.tmp 15)], #[25, 3]⟩, none⟩,
    ⟨(some 4), .assign (.tmp 16), none⟩,
    ⟨(some 5), .assign (.const (.bool true)), none⟩] [4, 5])
  .ret)))
theorem spec_SheetsBy_k : fnOk Try.prog 28 = some (spec_SheetsBy_c.strip, 17, [.tmp 4, .tmp 5]) := by kernel_rfl
/-- head: [1, 6, 17, 18, 19] -/
def impl_SheetsBy_l0 : ACode := (.seq (.reg [⟨(some 20), .binOp .lss 3 (.tmp 19) (.tmp 18) 3, none⟩] [1, 6, 17, 18, 19, 20])
  (.seq (.cond (.tmp 20) .skip
  (.exit 0))
  (.seq (.block 1 (.seq (.reg [⟨(some 21), .indexAddr 25 (.tmp 17) (.tmp 19), none⟩,
    ⟨(some 22), .load 56 (.tmp 21), none⟩,
    ⟨(some 8), .alloc 56, none⟩,
    ⟨none, .store 56 (.tmp 8) (.tmp 22), none⟩] [1, 6, 8, 17, 18, 19])
  (.seq (.reg [⟨(some 23), .fieldAddr 56 (.tmp 8) 1, none⟩,
    ⟨(some 24), .load 3 (.tmp 23), none⟩,
    ⟨(some 25), .move (.tmp 1), none⟩,
    ⟨(some 26), .binOp .leq 3 (.tmp 24) (.tmp 25) 3, none⟩] [1, 6, 8, 17, 18, 19, 26])
  (.cond (.tmp 26) (.reg [⟨(some 27), .move (.tmp 6), none⟩,
    ⟨(some 28), .fieldAddr 56 (.tmp 8) 2, none⟩,
    ⟨(some 29), .load 3 (.tmp 28), none⟩,
    ⟨(some 30), .binOp .add 3 (.tmp 27) (.tmp 29) 3, none⟩,
    ⟨(some 6), .assign (.tmp 30), none⟩] [1, 6, 17, 18, 19])
  .skip))))
  (.reg [⟨(some 31), .binOp .add 3 (.tmp 19) (.const (.int .i64 1)) 3, none⟩,
    ⟨(some 19), .move (.tmp 31), none⟩] [1, 6, 17, 18, 19]))))
/-- loop.example/g01062/impl.SheetsBy: number 29, params [0, 1] -/
def impl_SheetsBy_c : ACode := (.seq (.reg [⟨(some 4), .assign (.const (.int .i64 0)), none⟩,
    ⟨(some 5), .assign (.const (.bool false)), none⟩] [0, 1])
  (.seq (.seq (.reg [⟨(some 9), .move (.tmp 0), none⟩,
    ⟨(some 10), .call ⟨.value (.func 54), #[(.tmp 9)], #[25]⟩, none⟩,
    ⟨(some 11), .unOp .not 4 (.tmp 10), none⟩,
    ⟨(some 12), .move (.tmp 11), none⟩,
    ⟨(some 13), .move (.tmp 1), (some (some 12, false))⟩,
    ⟨(some 14), .call ⟨.value (.func 64), #[(.tmp 13)], #[3]⟩, (some (some 12, false))⟩,
    ⟨(some 15), .unOp .not 4 (.tmp 14), (some (some 12, false))⟩,
    ⟨(some 16), .pick (.tmp 12) (.const (.bool true)) (.tmp 15), none⟩] [0, 1, 16])
  (.cond (.tmp 16) (.seq (.reg [⟨(some 4), .assign (.const (.int .i64 0)), none⟩,
    ⟨(some 5), .assign (.const (.bool false)), none⟩] [4, 5])
  .ret)
  .skip))
  (.seq (.reg [⟨(some 6), .assign (.const (.int .i64 0)), none⟩] [0, 1, 6])
  (.seq (.seq (.reg [⟨(some 17), .move (.tmp 0), none⟩,
    ⟨(some 18), .call ⟨.builtin .len, #[(.tmp 17)], #[25]⟩, none⟩,
    ⟨(some 19), .move (.const (.int .i64 0)), none⟩] [1, 6, 17, 18, 19])
  (.block 0 (.loop impl_SheetsBy_l0)))
  (.seq (.reg [⟨(some 32), .move (.tmp 6), none⟩,
    ⟨(some 4), .assign (.tmp 32), none⟩,
    ⟨(some 5), .assign (.const (.bool true)), none⟩] [4, 5])
  .ret)))))
theorem impl_SheetsBy_k : fnOk Try.prog 29 = some (impl_SheetsBy_c.strip, 33, [.tmp 4, .tmp 5]) := by kernel_rfl
/-- head: [0, 1, 2, 8, 9] -/
def spec_CanBeOf_l0 : ACode := (.seq (.seq (.reg [⟨(some 25), .move (.tmp 9), none⟩,
    ⟨(some 26), .move (.tmp 0), none⟩,
    ⟨(some 27), .call ⟨.builtin .len, #[(.tmp 26)], #[25]⟩, none⟩,
    ⟨(some 28), .binOp .lss 3 (.tmp 25) (.tmp 27) 3, none⟩] [0, 1, 2, 8, 9, 28])
  (.cond (.tmp 28) .skip
  (.exit 0)))
  (.seq (.block 1 (.seq (.reg [⟨(some 31), .move (.tmp 0), none⟩,
    ⟨(some 32), .move (.tmp 9), none⟩,
    ⟨(some 33), .indexAddr 25 (.tmp 31) (.tmp 32), none⟩,
    ⟨(some 34), .load 56 (.tmp 33), none⟩,
    ⟨(some 35), .move (.tmp 1), none⟩,
    ⟨(some 36), .move (.tmp 2), none⟩,
    ⟨(some 37), .call ⟨.value (.func 65), #[(.tmp 34), (.tmp 35), (.tmp 36)], #[56, 3, 3]⟩, none⟩] [0, 1, 2, 8, 9, 37])
  (.cond (.tmp 37) (.reg [⟨(some 38), .move (.tmp 8), none⟩,
    ⟨(some 39), .move (.tmp 0), none⟩,
    ⟨(some 40), .move (.tmp 9), none⟩,
    ⟨(some 41), .indexAddr 25 (.tmp 39) (.tmp 40), none⟩,
    ⟨(some 42), .fieldAddr 56 (.tmp 41) 0, none⟩,
    ⟨(some 43), .load 3 (.tmp 42), none⟩,
    ⟨(some 44), .buildSlice 37 1 #[(0, (.tmp 43))], none⟩,
    ⟨(some 45), .call ⟨.builtin .append, #[(.tmp 38), (.tmp 44)], #[37, 37]⟩, none⟩,
    ⟨(some 8), .assign (.tmp 45), none⟩] [0, 1, 2, 8, 9])
  .skip)))
  (.reg [⟨(some 29), .move (.tmp 9), none⟩,
    ⟨(some 30), .binOp .add 3 (.tmp 29) (.const (.int .i64 1)) 3, none⟩,
    ⟨(some 9), .assign (.tmp 30), none⟩] [0, 1, 2, 8, 9])))
/-- loop.example/g01062/spec.CanBeOf: number 30, params [0, 1, 2] -/
def spec_CanBeOf_c : ACode := (.seq (.reg [⟨(some 6), .assign (.const (.slice none 0 0)), none⟩,
    ⟨(some 7), .assign (.const (.bool false)), none⟩] [0, 1, 2])
  (.seq (.reg [⟨(some 10), .buildSlice 37 0 #[], none⟩,
    ⟨(some 8), .assign (.tmp 10), none⟩] [0, 1, 2, 8])
  (.seq (.seq (.reg [⟨(some 11), .move (.tmp 0), none⟩,
    ⟨(some 12), .call ⟨.value (.func 52), #[(.tmp 11)], #[25]⟩, none⟩,
    ⟨(some 13), .unOp .not 4 (.tmp 12), none⟩,
    ⟨(some 14), .move (.tmp 13), none⟩,
    ⟨(some 15), .move (.tmp 1), (some (some 14, false))⟩,
    ⟨(some 16), .call ⟨.value (.func 62), #[(.tmp 15)], #[3]⟩, (some (some 14, false))⟩,
    ⟨(some 17), .unOp .not 4 (.tmp 16), (some (some 14, false))⟩,
    ⟨(some 18), .pick (.tmp 14) (.const (.bool true)) (.tmp 17), none⟩,
    ⟨(some 19), .move (.tmp 18), none⟩,
    ⟨(some 20), .move (.tmp 2), (some (some 19, false))⟩,
    ⟨(some 21), .call ⟨.value (.func 58), #[(.tmp 20)], #[3]⟩, (some (some 19, false))⟩,
    ⟨(some 22), .unOp .not 4 (.tmp 21), (some (some 19, false))⟩,
    ⟨(some 23), .pick (.tmp 19) (.const (.bool true)) (.tmp 22), none⟩] [0, 1, 2, 8, 23])
  (.cond (.tmp 23) (.seq (.reg [⟨(some 24), .move (.tmp 8), none⟩,
    ⟨(some 6), .assign (.tmp 24), none⟩,
    ⟨(some 7), .assign (.const (.bool false)), none⟩] [6, 7])
  .ret)
  .skip))
  (.seq (.seq (.reg [⟨(some 9), .assign (.const (.int .i64 0)), none⟩] [0, 1, 2, 8, 9])
  (.block 0 (.loop spec_CanBeOf_l0)))
  (.seq (.reg [⟨(some 46), .move (.tmp 8), none⟩,
    ⟨(some 6), .assign (.tmp 46), none⟩,
    ⟨(some 7), .assign (.const (.bool true)), none⟩] [6, 7])
  .ret)))))
theorem spec_CanBeOf_k : fnOk Try.prog 30 = some (spec_CanBeOf_c.strip, 47, [.tmp 6, .tmp 7]) := by kernel_rfl
/-- head: [1, 2, 8, 24, 25, 26] -/
def impl_CanBeOf_l0 : ACode := (.seq (.reg [⟨(some 27), .binOp .lss 3 (.tmp 26) (.tmp 25) 3, none⟩] [1, 2, 8, 24, 25, 26, 27])
  (.seq (.cond (.tmp 27) .skip
  (.exit 0))
  (.seq (.block 1 (.seq (.reg [⟨(some 28), .indexAddr 25 (.tmp 24) (.tmp 26), none⟩,
    ⟨(some 29), .load 56 (.tmp 28), none⟩,
    ⟨(some 10), .alloc 56, none⟩,
    ⟨none, .store 56 (.tmp 10) (.tmp 29), none⟩] [1, 2, 8, 10, 24, 25, 26])
  (.seq (.reg [⟨(some 30), .load 56 (.tmp 10), none⟩,
    ⟨(some 31), .move (.tmp 1), none⟩,
    ⟨(some 32), .move (.tmp 2), none⟩,
    ⟨(some 33), .call ⟨.value (.func 66), #[(.tmp 30), (.tmp 31), (.tmp 32)], #[56, 3, 3]⟩, none⟩] [1, 2, 8, 10, 24, 25, 26, 33])
  (.cond (.tmp 33) (.reg [⟨(some 34), .move (.tmp 8), none⟩,
    ⟨(some 35), .fieldAddr 56 (.tmp 10) 0, none⟩,
    ⟨(some 36), .load 3 (.tmp 35), none⟩,
    ⟨(some 37), .buildSlice 37 1 #[(0, (.tmp 36))], none⟩,
    ⟨(some 38), .call ⟨.builtin .append, #[(.tmp 34), (.tmp 37)], #[37, 37]⟩, none⟩,
    ⟨(some 8), .assign (.tmp 38), none⟩] [1, 2, 8, 24, 25, 26])
  .skip))))
  (.reg [⟨(some 39), .binOp .add 3 (.tmp 26) (.const (.int .i64 1)) 3, none⟩,
    ⟨(some 26), .move (.tmp 39), none⟩] [1, 2, 8, 24, 25, 26]))))
/-- loop.example/g01062/impl.CanBeOf: number 31, params [0, 1, 2] -/
def impl_CanBeOf_c : ACode := (.seq (.reg [⟨(some 6), .assign (.const (.slice none 0 0)), none⟩,
    ⟨(some 7), .assign (.const (.bool false)), none⟩] [0, 1, 2])
  (.seq (.seq (.reg [⟨(some 11), .move (.tmp 0), none⟩,
    ⟨(some 12), .call ⟨.value (.func 54), #[(.tmp 11)], #[25]⟩, none⟩,
    ⟨(some 13), .unOp .not 4 (.tmp 12), none⟩,
    ⟨(some 14), .move (.tmp 13), none⟩,
    ⟨(some 15), .move (.tmp 1), (some (some 14, false))⟩,
    ⟨(some 16), .call ⟨.value (.func 64), #[(.tmp 15)], #[3]⟩, (some (some 14, false))⟩,
    ⟨(some 17), .unOp .not 4 (.tmp 16), (some (some 14, false))⟩,
    ⟨(some 18), .pick (.tmp 14) (.const (.bool true)) (.tmp 17), none⟩,
    ⟨(some 19), .move (.tmp 18), none⟩,
    ⟨(some 20), .move (.tmp 2), (some (some 19, false))⟩,
    ⟨(some 21), .call ⟨.value (.func 60), #[(.tmp 20)], #[3]⟩, (some (some 19, false))⟩,
    ⟨(some 22), .unOp .not 4 (.tmp 21), (some (some 19, false))⟩,
    ⟨(some 23), .pick (.tmp 19) (.const (.bool true)) (.tmp 22), none⟩] [0, 1, 2, 23])
  (.cond (.tmp 23) (.seq (.reg [⟨(some 6), .assign (.const (.slice none 0 0)), none⟩,
    ⟨(some 7), .assign (.const (.bool false)), none⟩] [6, 7])
  .ret)
  .skip))
  (.seq (.reg [⟨(some 8), .assign (.const (.slice none 0 0)), none⟩] [0, 1, 2, 8])
  (.seq (.seq (.reg [⟨(some 24), .move (.tmp 0), none⟩,
    ⟨(some 25), .call ⟨.builtin .len, #[(.tmp 24)], #[25]⟩, none⟩,
    ⟨(some 26), .move (.const (.int .i64 0)), none⟩] [1, 2, 8, 24, 25, 26])
  (.block 0 (.loop impl_CanBeOf_l0)))
  (.seq (.reg [⟨(some 40), .move (.tmp 8), none⟩,
    ⟨(some 6), .assign (.tmp 40), none⟩,
    ⟨(some 7), .assign (.const (.bool true)), none⟩] [6, 7])
  .ret)))))
theorem impl_CanBeOf_k : fnOk Try.prog 31 = some (impl_CanBeOf_c.strip, 41, [.tmp 6, .tmp 7]) := by kernel_rfl
/-- head: [0, 1, 5] -/
def laws_eqIntS_l0 : ACode := (.seq (.seq (.reg [⟨(some 11), .move (.tmp 5), none⟩,
    ⟨(some 12), .move (.tmp 0), none⟩,
    ⟨(some 13), .call ⟨.builtin .len, #[(.tmp 12)], #[37]⟩, none⟩,
    ⟨(some 14), .binOp .lss 3 (.tmp 11) (.tmp 13) 3, none⟩] [0, 1, 5, 14])
  (.cond (.tmp 14) .skip
  (.exit 0)))
  (.seq (.block 1 (.seq (.regQ [⟨(some 17), .move (.tmp 0), none⟩,
    ⟨(some 18), .move (.tmp 5), none⟩,
    ⟨(some 19), .indexAddr 37 (.tmp 17) (.tmp 18), none⟩,
    ⟨(some 20), .load 3 (.tmp 19), none⟩,
    ⟨(some 21), .move (.tmp 1), none⟩,
    ⟨(some 22), .move (.tmp 5), none⟩,
    ⟨(some 23), .indexAddr 37 (.tmp 21) (.tmp 22), none⟩,
    ⟨(some 24), .load 3 (.tmp 23), none⟩,
    ⟨(some 25), .binOp .neq 3 (.tmp 20) (.tmp 24) 3, none⟩] [0, 1, 5, 25])
  (.cond (.tmp 25) (.seq (.reg [⟨(some 4), .assign (.const (.bool false)), none⟩] [4])
  .ret)
  .skip)))
  (.reg [⟨(some 15), .move (.tmp 5), none⟩,
    ⟨(some 16), .binOp .add 3 (.tmp 15) (.const (.int .i64 1)) 3, none⟩,
    ⟨(some 5), .assign (.tmp 16), none⟩] [0, 1, 5])))
/-- loop.example/g01062/laws.eqIntS: number 32, params [0, 1] -/
def laws_eqIntS_c : ACode := (.seq (.reg [⟨(some 4), .assign (.const (.bool false)), none⟩] [0, 1])
  (.seq (.seq (.reg [⟨(some 6), .move (.tmp 0), none⟩,
    ⟨(some 7), .call ⟨.builtin .len, #[(.tmp 6)], #[37]⟩, none⟩,
    ⟨(some 8), .move (.tmp 1), none⟩,
    ⟨(some 9), .call ⟨.builtin .len, #[(.tmp 8)], #[37]⟩, none⟩,
    ⟨(some 10), .binOp .neq 3 (.tmp 7) (.tmp 9) 3, none⟩] [0, 1, 10])
  (.cond (.tmp 10) (.seq (.reg [⟨(some 4), .assign (.const (.bool false)), none⟩] [4])
  .ret)
  .skip))
  (.seq (.seq (.reg [⟨(some 5), .assign (.const (.int .i64 0)), none⟩] [0, 1, 5])
  (.block 0 (.loop laws_eqIntS_l0)))
  (.seq (.reg [⟨(some 4), .assign (.const (.bool true)), none⟩] [4])
  .ret))))
theorem laws_eqIntS_k : fnOk Try.prog 32 = some (laws_eqIntS_c.strip, 26, [.tmp 4]) := by kernel_rfl
/-- head: [0, 1, 5] -/
def laws_markPrintingS_l0 : ACode := (.seq (.seq (.reg [⟨(some 6), .move (.tmp 5), none⟩,
    ⟨(some 7), .move (.tmp 0), none⟩,
    ⟨(some 8), .call ⟨.builtin .len, #[(.tmp 7)], #[25]⟩, none⟩,
    ⟨(some 9), .binOp .lss 3 (.tmp 6) (.tmp 8) 3, none⟩] [0, 1, 5, 9])
  (.cond (.tmp 9) .skip
  (.exit 0)))
  (.seq (.block 1 (.seq (.reg [⟨(some 12), .move (.tmp 0), none⟩,
    ⟨(some 13), .move (.tmp 5), none⟩,
    ⟨(some 14), .move (.tmp 1), none⟩,
    ⟨(some 15), .indexAddr 25 (.tmp 12) (.tmp 13), none⟩,
    ⟨(some 16), .fieldAddr 56 (.tmp 15) 0, none⟩,
    ⟨none, .store 3 (.tmp 16) (.tmp 14), none⟩] [0, 1, 5])
  (.seq (.reg [⟨(some 17), .move (.tmp 1), none⟩,
    ⟨(some 18), .binOp .add 3 (.tmp 17) (.const (.int .i64 1)) 3, none⟩,
    ⟨(some 1), .assign (.tmp 18), none⟩] [0, 1, 5])
  (.seq (.reg [⟨(some 19), .move (.tmp 0), none⟩,
    ⟨(some 20), .move (.tmp 5), none⟩,
    ⟨(some 21), .move (.tmp 1), none⟩,
    ⟨(some 22), .indexAddr 25 (.tmp 19) (.tmp 20), none⟩,
    ⟨(some 23), .fieldAddr 56 (.tmp 22) 1, none⟩,
    ⟨none, .store 3 (.tmp 23) (.tmp 21), none⟩] [0, 1, 5])
  (.seq (.reg [⟨(some 24), .move (.tmp 1), none⟩,
    ⟨(some 25), .binOp .add 3 (.tmp 24) (.const (.int .i64 1)) 3, none⟩,
    ⟨(some 1), .assign (.tmp 25), none⟩] [0, 1, 5])
  (.seq (.reg [⟨(some 26), .move (.tmp 0), none⟩,
    ⟨(some 27), .move (.tmp 5), none⟩,
    ⟨(some 28), .move (.tmp 1), none⟩,
    ⟨(some 29), .indexAddr 25 (.tmp 26) (.tmp 27), none⟩,
    ⟨(some 30), .fieldAddr 56 (.tmp 29) 2, none⟩,
    ⟨none, .store 3 (.tmp 30) (.tmp 28), none⟩] [0, 1, 5])
  (.seq (.reg [⟨(some 31), .move (.tmp 1), none⟩,
    ⟨(some 32), .binOp .add 3 (.tmp 31) (.const (.int .i64 1)) 3, none⟩,
    ⟨(some 1), .assign (.tmp 32), none⟩] [0, 1, 5])
  (.seq (.reg [⟨(some 33), .move (.tmp 0), none⟩,
    ⟨(some 34), .move (.tmp 5), none⟩,
    ⟨(some 35), .move (.tmp 1), none⟩,
    ⟨(some 36), .indexAddr 25 (.tmp 33) (.tmp 34), none⟩,
    ⟨(some 37), .fieldAddr 56 (.tmp 36) 3, none⟩,
    ⟨none, .store 3 (.tmp 37) (.tmp 35), none⟩] [0, 1, 5])
  (.seq (.reg [⟨(some 38), .move (.tmp 1), none⟩,
    ⟨(some 39), .binOp .add 3 (.tmp 38) (.const (.int .i64 1)) 3, none⟩,
    ⟨(some 1), .assign (.tmp 39), none⟩] [0, 1, 5])
  (.seq (.reg [⟨(some 40), .move (.tmp 0), none⟩,
    ⟨(some 41), .move (.tmp 5), none⟩,
    ⟨(some 42), .move (.tmp 1), none⟩,
    ⟨(some 43), .indexAddr 25 (.tmp 40) (.tmp 41), none⟩,
    ⟨(some 44), .fieldAddr 56 (.tmp 43) 4, none⟩,
    ⟨none, .store 3 (.tmp 44) (.tmp 42), none⟩] [0, 1, 5])
  (.reg [⟨(some 45), .move (.tmp 1), none⟩,
    ⟨(some 46), .binOp .add 3 (.tmp 45) (.const (.int .i64 1)) 3, none⟩,
    ⟨(some 1), .assign (.tmp 46), none⟩] [0, 1, 5])))))))))))
  (.reg [⟨(some 10), .move (.tmp 5), none⟩,
    ⟨(some 11), .binOp .add 3 (.tmp 10) (.const (.int .i64 1)) 3, none⟩,
    ⟨(some 5), .assign (.tmp 11), none⟩] [0, 1, 5])))
/-- loop.example/g01062/laws.markPrintingS: number 33, params [0, 1] -/
def laws_markPrintingS_c : ACode := (.seq (.reg [⟨(some 4), .assign (.const (.int .i64 0)), none⟩] [0, 1])
  (.seq (.seq (.reg [⟨(some 5), .assign (.const (.int .i64 0)), none⟩] [0, 1, 5])
  (.block 0 (.loop laws_markPrintingS_l0)))
  (.seq (.reg [⟨(some 47), .move (.tmp 1), none⟩,
    ⟨(some 4), .assign (.tmp 47), none⟩] [4])
  .ret)))
theorem laws_markPrintingS_k : fnOk Try.prog 33 = some (laws_markPrintingS_c.strip, 48, [.tmp 4]) := by kernel_rfl
/-- head: [0, 1, 5] -/
def laws_markIntS_l0 : ACode := (.seq (.seq (.reg [⟨(some 6), .move (.tmp 5), none⟩,
    ⟨(some 7), .move (.tmp 0), none⟩,
    ⟨(some 8), .call ⟨.builtin .len, #[(.tmp 7)], #[37]⟩, none⟩,
    ⟨(some 9), .binOp .lss 3 (.tmp 6) (.tmp 8) 3, none⟩] [0, 1, 5, 9])
  (.cond (.tmp 9) .skip
  (.exit 0)))
  (.seq (.block 1 (.seq (.reg [⟨(some 12), .move (.tmp 0), none⟩,
    ⟨(some 13), .move (.tmp 5), none⟩,
    ⟨(some 14), .move (.tmp 1), none⟩,
    ⟨(some 15), .indexAddr 37 (.tmp 12) (.tmp 13), none⟩,
    ⟨none, .store 3 (.tmp 15) (.tmp 14), none⟩] [0, 1, 5])
  (.reg [⟨(some 16), .move (.tmp 1), none⟩,
    ⟨(some 17), .binOp .add 3 (.tmp 16) (.const (.int .i64 1)) 3, none⟩,
    ⟨(some 1), .assign (.tmp 17), none⟩] [0, 1, 5])))
  (.reg [⟨(some 10), .move (.tmp 5), none⟩,
    ⟨(some 11), .binOp .add 3 (.tmp 10) (.const (.int .i64 1)) 3, none⟩,
    ⟨(some 5), .assign (.tmp 11), none⟩] [0, 1, 5])))
/-- loop.example/g01062/laws.markIntS: number 34, params [0, 1] -/
def laws_markIntS_c : ACode := (.seq (.reg [⟨(some 4), .assign (.const (.int .i64 0)), none⟩] [0, 1])
  (.seq (.seq (.reg [⟨(some 5), .assign (.const (.int .i64 0)), none⟩] [0, 1, 5])
  (.block 0 (.loop laws_markIntS_l0)))
  (.seq (.reg [⟨(some 18), .move (.tmp 1), none⟩,
    ⟨(some 4), .assign (.tmp 18), none⟩] [4])
  .ret)))
theorem laws_markIntS_k : fnOk Try.prog 34 = some (laws_markIntS_c.strip, 19, [.tmp 4]) := by kernel_rfl
/-- head: [0, 1, 5] -/
def laws_heldIntS_l0 : ACode := (.seq (.seq (.reg [⟨(some 6), .move (.tmp 5), none⟩,
    ⟨(some 7), .move (.tmp 0), none⟩,
    ⟨(some 8), .call ⟨.builtin .len, #[(.tmp 7)], #[37]⟩, none⟩,
    ⟨(some 9), .binOp .lss 3 (.tmp 6) (.tmp 8) 3, none⟩] [0, 1, 5, 9])
  (.cond (.tmp 9) .skip
  (.exit 0)))
  (.seq (.block 1 (.seq (.seq (.reg [⟨(some 12), .move (.tmp 0), none⟩,
    ⟨(some 13), .move (.tmp 5), none⟩,
    ⟨(some 14), .indexAddr 37 (.tmp 12) (.tmp 13), none⟩,
    ⟨(some 15), .load 3 (.tmp 14), none⟩,
    ⟨(some 16), .move (.tmp 1), none⟩,
    ⟨(some 17), .binOp .neq 3 (.tmp 15) (.tmp 16) 3, none⟩] [0, 1, 5, 17])
  (.cond (.tmp 17) (.seq (.reg [⟨(some 4), .assign (.const (.int .i64 (-1))), none⟩] [4])
  .ret)
  .skip))
  (.reg [⟨(some 18), .move (.tmp 1), none⟩,
    ⟨(some 19), .binOp .add 3 (.tmp 18) (.const (.int .i64 1)) 3, none⟩,
    ⟨(some 1), .assign (.tmp 19), none⟩] [0, 1, 5])))
  (.reg [⟨(some 10), .move (.tmp 5), none⟩,
    ⟨(some 11), .binOp .add 3 (.tmp 10) (.const (.int .i64 1)) 3, none⟩,
    ⟨(some 5), .assign (.tmp 11), none⟩] [0, 1, 5])))
/-- loop.example/g01062/laws.heldIntS: number 35, params [0, 1] -/
def laws_heldIntS_c : ACode := (.seq (.reg [⟨(some 4), .assign (.const (.int .i64 0)), none⟩] [0, 1])
  (.seq (.seq (.reg [⟨(some 5), .assign (.const (.int .i64 0)), none⟩] [0, 1, 5])
  (.block 0 (.loop laws_heldIntS_l0)))
  (.seq (.reg [⟨(some 20), .move (.tmp 1), none⟩,
    ⟨(some 4), .assign (.tmp 20), none⟩] [4])
  .ret)))
theorem laws_heldIntS_k : fnOk Try.prog 35 = some (laws_heldIntS_c.strip, 21, [.tmp 4]) := by kernel_rfl
/-- loop.example/g01062/spec.ShareOfSheets: number 36, params [0, 1] -/
def spec_ShareOfSheets_c : ACode := (.seq (.reg [⟨(some 4), .assign (.const (.int .i64 0)), none⟩,
    ⟨(some 5), .assign (.const (.int .i64 0)), none⟩,
    ⟨(some 6), .assign (.const (.bool false)), none⟩] [0, 1])
  (.seq (.reg [⟨(some 10), .move (.tmp 0), none⟩,
    ⟨(some 11), .move (.tmp 1), none⟩,
    ⟨(some 12), .call ⟨.value (.func 67), #[(.tmp 10), (.tmp 11)], #[25, 3]⟩, none⟩,
    ⟨(some 7), .assign (.tmp 12), none⟩] [0, 7])
  (.seq (.seq (.reg [⟨(some 13), .move (.tmp 0), none⟩,
    ⟨(some 14), .call ⟨.value (.func 52), #[(.tmp 13)], #[25]⟩, none⟩,
    ⟨(some 15), .unOp .not 4 (.tmp 14), none⟩,
    ⟨(some 16), .move (.tmp 15), none⟩,
    ⟨(some 17), .move (.tmp 7), (some (some 16, false))⟩,
    ⟨(some 18), .binOp .lss 3 (.tmp 17) (.const (.int .i64 0)) 3, (some (some 16, false))⟩,
    ⟨(some 19), .pick (.tmp 16) (.const (.bool true)) (.tmp 18), none⟩] [0, 7, 19])
  (.cond (.tmp 19) (.seq (.reg [⟨(some 4), .assign (.const (.int .i64 0)), none⟩,
    ⟨(some 5), .assign (.const (.int .i64 0)), none⟩,
    ⟨(some 6), .assign (.const (.bool false)), none⟩] [4, 5, 6])
  .ret)
  .skip))
  (.seq (.regQ [⟨(some 21), .move (.tmp 0), none⟩,
    ⟨(some 22), .move (.tmp 7), none⟩,
    ⟨(some 23), .indexAddr 25 (.tmp 21) (.tmp 22), none⟩,
    ⟨(some 24), .fieldAddr 56 (.tmp 23) 2, none⟩,
    ⟨(some 25), .load 3 (.tmp 24), none⟩,
    ⟨(some 26), .move (.tmp 0), none⟩,
    ⟨(some 27), .call ⟨.value (.func 63), #[(.tmp 26), (.const (.int .i64 4000))], #[25, 3]⟩, none⟩,
    ⟨(some 28), .call ⟨.value (.func 68), #[(.tmp 25), (.tmp 27)], #[3, 3]⟩, none⟩,
    ⟨(some 20), .move (.tmp 28), none⟩,
    ⟨(some 29), .extract (.tmp 20) 0, none⟩,
    ⟨(some 30), .extract (.tmp 20) 1, none⟩,
    ⟨(some 8), .assign (.tmp 29), none⟩,
    ⟨(some 9), .assign (.tmp 30), none⟩] [8, 9])
  (.seq (.reg [⟨(some 31), .move (.tmp 8), none⟩,
    ⟨(some 32), .move (.tmp 9), none⟩,
    ⟨(some 4), .assign (.tmp 31), none⟩,
    ⟨(some 5), .assign (.tmp 32), none⟩,
    ⟨(some 6), .assign (.const (.bool true)), none⟩] [4, 5, 6])
  .ret)))))
theorem spec_ShareOfSheets_k : fnOk Try.prog 36 = some (spec_ShareOfSheets_c.strip, 33, [.tmp 4, .tmp 5, .tmp 6]) := by kernel_rfl
/-- head: [0, 7, 8, 23, 24, 25] -/
def impl_ShareOfSheets_l0 : ACode := (.seq (.reg [⟨(some 26), .binOp .lss 3 (.tmp 25) (.tmp 24) 3, none⟩] [0, 7, 8, 23, 24, 25, 26])
  (.seq (.cond (.tmp 26) .skip
  (.exit 0))
  (.seq (.block 1 (.seq (.reg [⟨(some 27), .indexAddr 25 (.tmp 23) (.tmp 25), none⟩,
    ⟨(some 28), .load 56 (.tmp 27), none⟩,
    ⟨(some 10), .alloc 56, none⟩,
    ⟨none, .store 56 (.tmp 10) (.tmp 28), none⟩] [0, 7, 8, 10, 23, 24, 25])
  (.reg [⟨(some 29), .move (.tmp 8), none⟩,
    ⟨(some 30), .fieldAddr 56 (.tmp 10) 2, none⟩,
    ⟨(some 31), .load 3 (.tmp 30), none⟩,
    ⟨(some 32), .binOp .add 3 (.tmp 29) (.tmp 31) 3, none⟩,
    ⟨(some 8), .assign (.tmp 32), none⟩] [0, 7, 8, 23, 24, 25])))
  (.reg [⟨(some 33), .binOp .add 3 (.tmp 25) (.const (.int .i64 1)) 3, none⟩,
    ⟨(some 25), .move (.tmp 33), none⟩] [0, 7, 8, 23, 24, 25]))))
/-- loop.example/g01062/impl.ShareOfSheets: number 37, params [0, 1] -/
def impl_ShareOfSheets_c : ACode := (.seq (.reg [⟨(some 4), .assign (.const (.int .i64 0)), none⟩,
    ⟨(some 5), .assign (.const (.int .i64 0)), none⟩,
    ⟨(some 6), .assign (.const (.bool false)), none⟩] [0, 1])
  (.seq (.reg [⟨(some 13), .move (.tmp 0), none⟩,
    ⟨(some 14), .move (.tmp 1), none⟩,
    ⟨(some 15), .call ⟨.value (.func 69), #[(.tmp 13), (.tmp 14)], #[25, 3]⟩, none⟩,
    ⟨(some 7), .assign (.tmp 15), none⟩] [0, 7])
  (.seq (.seq (.reg [⟨(some 16), .move (.tmp 0), none⟩,
    ⟨(some 17), .call ⟨.value (.func 54), #[(.tmp 16)], #[25]⟩, none⟩,
    ⟨(some 18), .unOp .not 4 (.tmp 17), none⟩,
    ⟨(some 19), .move (.tmp 18), none⟩,
    ⟨(some 20), .move (.tmp 7), (some (some 19, false))⟩,
    ⟨(some 21), .binOp .lss 3 (.tmp 20) (.const (.int .i64 0)) 3, (some (some 19, false))⟩,
    ⟨(some 22), .pick (.tmp 19) (.const (.bool true)) (.tmp 21), none⟩] [0, 7, 22])
  (.cond (.tmp 22) (.seq (.reg [⟨(some 4), .assign (.const (.int .i64 0)), none⟩,
    ⟨(some 5), .assign (.const (.int .i64 0)), none⟩,
    ⟨(some 6), .assign (.const (.bool false)), none⟩] [4, 5, 6])
  .ret)
  .skip))
  (.seq (.reg [⟨(some 8), .assign (.const (.int .i64 0)), none⟩] [0, 7, 8])
  (.seq (.seq (.reg [⟨(some 23), .move (.tmp 0), none⟩,
    ⟨(some 24), .call ⟨.builtin .len, #[(.tmp 23)], #[25]⟩, none⟩,
    ⟨(some 25), .move (.const (.int .i64 0)), none⟩] [0, 7, 8, 23, 24, 25])
  (.block 0 (.loop impl_ShareOfSheets_l0)))
  (.seq (.reg [⟨(some 35), .move (.tmp 0), none⟩,
    ⟨(some 36), .move (.tmp 7), none⟩,
    ⟨(some 37), .indexAddr 25 (.tmp 35) (.tmp 36), none⟩,
    ⟨(some 38), .fieldAddr 56 (.tmp 37) 2, none⟩,
    ⟨(some 39), .load 3 (.tmp 38), none⟩,
    ⟨(some 40), .move (.tmp 8), none⟩,
    ⟨(some 41), .call ⟨.value (.func 70), #[(.tmp 39), (.tmp 40)], #[3, 3]⟩, none⟩,
    ⟨(some 34), .move (.tmp 41), none⟩,
    ⟨(some 42), .extract (.tmp 34) 0, none⟩,
    ⟨(some 43), .extract (.tmp 34) 1, none⟩,
    ⟨(some 11), .assign (.tmp 42), none⟩,
    ⟨(some 12), .assign (.tmp 43), none⟩] [11, 12])
  (.seq (.reg [⟨(some 44), .move (.tmp 11), none⟩,
    ⟨(some 45), .move (.tmp 12), none⟩,
    ⟨(some 4), .assign (.tmp 44), none⟩,
    ⟨(some 5), .assign (.tmp 45), none⟩,
    ⟨(some 6), .assign (.const (.bool true)), none⟩] [4, 5, 6])
  .ret)))))))
theorem impl_ShareOfSheets_k : fnOk Try.prog 37 = some (impl_ShareOfSheets_c.strip, 46, [.tmp 4, .tmp 5, .tmp 6]) := by kernel_rfl
/-- loop.example/g01062/spec.NextPrinting: number 38, params [0, 1, 2, 3, 4] -/
def spec_NextPrinting_c : ACode := (.seq (.reg [⟨(some 10), .assign (.const (.slice none 0 0)), none⟩,
    ⟨(some 11), .assign (.const (.int .i64 0)), none⟩,
    ⟨(some 12), .assign (.const (.bool false)), none⟩] [0, 1, 2, 3, 4])
  (.seq (.reg [⟨(some 13), .assign (.const (.int .i64 1)), none⟩] [0, 1, 2, 3, 4, 13])
  (.seq (.seq (.reg [⟨(some 16), .move (.tmp 0), none⟩,
    ⟨(some 17), .call ⟨.builtin .len, #[(.tmp 16)], #[25]⟩, none⟩,
    ⟨(some 14), .assign (.tmp 17), none⟩] [0, 1, 2, 3, 4, 13, 14])
  (.seq (.reg [⟨(some 18), .move (.tmp 14), none⟩,
    ⟨(some 19), .binOp .gtr 3 (.tmp 18) (.const (.int .i64 0)) 3, none⟩] [0, 1, 2, 3, 4, 13, 14, 19])
  (.cond (.tmp 19) (.reg [⟨(some 20), .move (.tmp 0), none⟩,
    ⟨(some 21), .move (.tmp 14), none⟩,
    ⟨(some 22), .binOp .sub 3 (.tmp 21) (.const (.int .i64 1)) 3, none⟩,
    ⟨(some 23), .indexAddr 25 (.tmp 20) (.tmp 22), none⟩,
    ⟨(some 24), .fieldAddr 56 (.tmp 23) 0, none⟩,
    ⟨(some 25), .load 3 (.tmp 24), none⟩,
    ⟨(some 26), .binOp .add 3 (.tmp 25) (.const (.int .i64 1)) 3, none⟩,
    ⟨(some 13), .assign (.tmp 26), none⟩] [0, 1, 2, 3, 4, 13])
  .skip)))
  (.seq (.reg [⟨(some 27), .buildSlice 25 0 #[], none⟩,
    ⟨(some 28), .move (.tmp 0), none⟩,
    ⟨(some 29), .call ⟨.builtin .append, #[(.tmp 27), (.tmp 28)], #[25, 25]⟩, none⟩,
    ⟨(some 30), .move (.tmp 13), none⟩,
    ⟨(some 31), .move (.tmp 1), none⟩,
    ⟨(some 32), .move (.tmp 2), none⟩,
    ⟨(some 33), .move (.tmp 3), none⟩,
    ⟨(some 34), .move (.tmp 4), none⟩,
    ⟨(some 35), .build 56 #[(0, (.tmp 30)), (1, (.tmp 31)), (2, (.tmp 32)), (3, (.tmp 33)), (4, (.tmp 34))], none⟩,
    ⟨(some 36), .buildSlice 25 1 #[(0, (.tmp 35))], none⟩,
    ⟨(some 37), .call ⟨.builtin .append, #[(.tmp 29), (.tmp 36)], #[25, 25]⟩, none⟩,
    ⟨(some 15), .assign (.tmp 37), none⟩] [0, 13, 15])
  (.seq (.seq (.reg [⟨(some 38), .move (.tmp 0), none⟩,
    ⟨(some 39), .call ⟨.value (.func 52), #[(.tmp 38)], #[25]⟩, none⟩,
    ⟨(some 40), .unOp .not 4 (.tmp 39), none⟩,
    ⟨(some 41), .move (.tmp 40), none⟩,
    ⟨(some 42), .move (.tmp 15), (some (some 41, false))⟩,
    ⟨(some 43), .call ⟨.value (.func 52), #[(.tmp 42)], #[25]⟩, (some (some 41, false))⟩,
    ⟨(some 44), .unOp .not 4 (.tmp 43), (some (some 41, false))⟩,
    ⟨(some 45), .pick (.tmp 41) (.const (.bool true)) (.tmp 44), none⟩] [13, 15, 45])
  (.cond (.tmp 45) (.seq (.reg [⟨(some 46), .buildSlice 25 0 #[], none⟩,
    ⟨(some 10), .assign (.tmp 46), none⟩,
    ⟨(some 11), .assign (.const (.int .i64 0)), none⟩,
    ⟨(some 12), .assign (.const (.bool false)), none⟩] [10, 11, 12])
  .ret)
  .skip))
  (.seq (.reg [⟨(some 47), .move (.tmp 15), none⟩,
    ⟨(some 48), .move (.tmp 13), none⟩,
    ⟨(some 10), .assign (.tmp 47), none⟩,
    ⟨(some 11), .assign (.tmp 48), none⟩,
    ⟨(some 12), .assign (.const (.bool true)), none⟩] [10, 11, 12])
  .ret))))))
theorem spec_NextPrinting_k : fnOk Try.prog 38 = some (spec_NextPrinting_c.strip, 49, [.tmp 10, .tmp 11, .tmp 12]) := by kernel_rfl
/-- loop.example/g01062/impl.NextPrinting: number 39, params [0, 1, 2, 3, 4] -/
def impl_NextPrinting_c : ACode := (.seq (.reg [⟨(some 10), .assign (.const (.slice none 0 0)), none⟩,
    ⟨(some 11), .assign (.const (.int .i64 0)), none⟩,
    ⟨(some 12), .assign (.const (.bool false)), none⟩] [0, 1, 2, 3, 4])
  (.seq (.seq (.reg [⟨(some 16), .move (.tmp 0), none⟩,
    ⟨(some 17), .call ⟨.value (.func 54), #[(.tmp 16)], #[25]⟩, none⟩,
    ⟨(some 18), .unOp .not 4 (.tmp 17), none⟩] [0, 1, 2, 3, 4, 18])
  (.cond (.tmp 18) (.seq (.reg [⟨(some 10), .assign (.const (.slice none 0 0)), none⟩,
    ⟨(some 11), .assign (.const (.int .i64 0)), none⟩,
    ⟨(some 12), .assign (.const (.bool false)), none⟩] [10, 11, 12])
  .ret)
  .skip))
  (.seq (.reg [⟨(some 13), .assign (.const (.int .i64 1)), none⟩] [0, 1, 2, 3, 4, 13])
  (.seq (.seq (.reg [⟨(some 19), .move (.tmp 0), none⟩,
    ⟨(some 20), .call ⟨.builtin .len, #[(.tmp 19)], #[25]⟩, none⟩,
    ⟨(some 14), .assign (.tmp 20), none⟩] [0, 1, 2, 3, 4, 13, 14])
  (.seq (.reg [⟨(some 21), .move (.tmp 14), none⟩,
    ⟨(some 22), .binOp .gtr 3 (.tmp 21) (.const (.int .i64 0)) 3, none⟩] [0, 1, 2, 3, 4, 13, 14, 22])
  (.cond (.tmp 22) (.reg [⟨(some 23), .move (.tmp 0), none⟩,
    ⟨(some 24), .move (.tmp 14), none⟩,
    ⟨(some 25), .binOp .sub 3 (.tmp 24) (.const (.int .i64 1)) 3, none⟩,
    ⟨(some 26), .indexAddr 25 (.tmp 23) (.tmp 25), none⟩,
    ⟨(some 27), .fieldAddr 56 (.tmp 26) 0, none⟩,
    ⟨(some 28), .load 3 (.tmp 27), none⟩,
    ⟨(some 29), .binOp .add 3 (.tmp 28) (.const (.int .i64 1)) 3, none⟩,
    ⟨(some 13), .assign (.tmp 29), none⟩] [0, 1, 2, 3, 4, 13])
  .skip)))
  (.seq (.reg [⟨(some 30), .move (.tmp 0), none⟩,
    ⟨(some 31), .call ⟨.value (.func 71), #[(.tmp 30)], #[25]⟩, none⟩,
    ⟨(some 32), .move (.tmp 13), none⟩,
    ⟨(some 33), .move (.tmp 1), none⟩,
    ⟨(some 34), .move (.tmp 2), none⟩,
    ⟨(some 35), .move (.tmp 3), none⟩,
    ⟨(some 36), .move (.tmp 4), none⟩,
    ⟨(some 37), .build 56 #[(0, (.tmp 32)), (1, (.tmp 33)), (2, (.tmp 34)), (3, (.tmp 35)), (4, (.tmp 36))], none⟩,
    ⟨(some 38), .buildSlice 25 1 #[(0, (.tmp 37))], none⟩,
    ⟨(some 39), .call ⟨.builtin .append, #[(.tmp 31), (.tmp 38)], #[25, 25]⟩, none⟩,
    ⟨(some 15), .assign (.tmp 39), none⟩] [13, 15])
  (.seq (.seq (.reg [⟨(some 40), .move (.tmp 15), none⟩,
    ⟨(some 41), .call ⟨.value (.func 54), #[(.tmp 40)], #[25]⟩, none⟩,
    ⟨(some 42), .unOp .not 4 (.tmp 41), none⟩] [13, 15, 42])
  (.cond (.tmp 42) (.seq (.reg [⟨(some 10), .assign (.const (.slice none 0 0)), none⟩,
    ⟨(some 11), .assign (.const (.int .i64 0)), none⟩,
    ⟨(some 12), .assign (.const (.bool false)), none⟩] [10, 11, 12])
  .ret)
  .skip))
  (.seq (.reg [⟨(some 43), .move (.tmp 15), none⟩,
    ⟨(some 44), .move (.tmp 13), none⟩,
    ⟨(some 10), .assign (.tmp 43), none⟩,
    ⟨(some 11), .assign (.tmp 44), none⟩,
    ⟨(some 12), .assign (.const (.bool true)), none⟩] [10, 11, 12])
  .ret)))))))
theorem impl_NextPrinting_k : fnOk Try.prog 39 = some (impl_NextPrinting_c.strip, 45, [.tmp 10, .tmp 11, .tmp 12]) := by kernel_rfl
/-- head: [0, 1, 5] -/
def laws_heldPrintingS_l0 : ACode := (.seq (.seq (.reg [⟨(some 6), .move (.tmp 5), none⟩,
    ⟨(some 7), .move (.tmp 0), none⟩,
    ⟨(some 8), .call ⟨.builtin .len, #[(.tmp 7)], #[25]⟩, none⟩,
    ⟨(some 9), .binOp .lss 3 (.tmp 6) (.tmp 8) 3, none⟩] [0, 1, 5, 9])
  (.cond (.tmp 9) .skip
  (.exit 0)))
  (.seq (.block 1 (.seq (.seq (.reg [⟨(some 12), .move (.tmp 0), none⟩,
    ⟨(some 13), .move (.tmp 5), none⟩,
    ⟨(some 14), .indexAddr 25 (.tmp 12) (.tmp 13), none⟩,
    ⟨(some 15), .fieldAddr 56 (.tmp 14) 0, none⟩,
    ⟨(some 16), .load 3 (.tmp 15), none⟩,
    ⟨(some 17), .move (.tmp 1), none⟩,
    ⟨(some 18), .binOp .neq 3 (.tmp 16) (.tmp 17) 3, none⟩] [0, 1, 5, 18])
  (.cond (.tmp 18) (.seq (.reg [⟨(some 4), .assign (.const (.int .i64 (-1))), none⟩] [4])
  .ret)
  .skip))
  (.seq (.reg [⟨(some 19), .move (.tmp 1), none⟩,
    ⟨(some 20), .binOp .add 3 (.tmp 19) (.const (.int .i64 1)) 3, none⟩,
    ⟨(some 1), .assign (.tmp 20), none⟩] [0, 1, 5])
  (.seq (.seq (.reg [⟨(some 21), .move (.tmp 0), none⟩,
    ⟨(some 22), .move (.tmp 5), none⟩,
    ⟨(some 23), .indexAddr 25 (.tmp 21) (.tmp 22), none⟩,
    ⟨(some 24), .fieldAddr 56 (.tmp 23) 1, none⟩,
    ⟨(some 25), .load 3 (.tmp 24), none⟩,
    ⟨(some 26), .move (.tmp 1), none⟩,
    ⟨(some 27), .binOp .neq 3 (.tmp 25) (.tmp 26) 3, none⟩] [0, 1, 5, 27])
  (.cond (.tmp 27) (.seq (.reg [⟨(some 4), .assign (.const (.int .i64 (-1))), none⟩] [4])
  .ret)
  .skip))
  (.seq (.reg [⟨(some 28), .move (.tmp 1), none⟩,
    ⟨(some 29), .binOp .add 3 (.tmp 28) (.const (.int .i64 1)) 3, none⟩,
    ⟨(some 1), .assign (.tmp 29), none⟩] [0, 1, 5])
  (.seq (.seq (.reg [⟨(some 30), .move (.tmp 0), none⟩,
    ⟨(some 31), .move (.tmp 5), none⟩,
    ⟨(some 32), .indexAddr 25 (.tmp 30) (.tmp 31), none⟩,
    ⟨(some 33), .fieldAddr 56 (.tmp 32) 2, none⟩,
    ⟨(some 34), .load 3 (.tmp 33), none⟩,
    ⟨(some 35), .move (.tmp 1), none⟩,
    ⟨(some 36), .binOp .neq 3 (.tmp 34) (.tmp 35) 3, none⟩] [0, 1, 5, 36])
  (.cond (.tmp 36) (.seq (.reg [⟨(some 4), .assign (.const (.int .i64 (-1))), none⟩] [4])
  .ret)
  .skip))
  (.seq (.reg [⟨(some 37), .move (.tmp 1), none⟩,
    ⟨(some 38), .binOp .add 3 (.tmp 37) (.const (.int .i64 1)) 3, none⟩,
    ⟨(some 1), .assign (.tmp 38), none⟩] [0, 1, 5])
  (.seq (.seq (.reg [⟨(some 39), .move (.tmp 0), none⟩,
    ⟨(some 40), .move (.tmp 5), none⟩,
    ⟨(some 41), .indexAddr 25 (.tmp 39) (.tmp 40), none⟩,
    ⟨(some 42), .fieldAddr 56 (.tmp 41) 3, none⟩,
    ⟨(some 43), .load 3 (.tmp 42), none⟩,
    ⟨(some 44), .move (.tmp 1), none⟩,
    ⟨(some 45), .binOp .neq 3 (.tmp 43) (.tmp 44) 3, none⟩] [0, 1, 5, 45])
  (.cond (.tmp 45) (.seq (.reg [⟨(some 4), .assign (.const (.int .i64 (-1))), none⟩] [4])
  .ret)
  .skip))
  (.seq (.reg [⟨(some 46), .move (.tmp 1), none⟩,
    ⟨(some 47), .binOp .add 3 (.tmp 46) (.const (.int .i64 1)) 3, none⟩,
    ⟨(some 1), .assign (.tmp 47), none⟩] [0, 1, 5])
  (.seq (.seq (.reg [⟨(some 48), .move (.tmp 0), none⟩,
    ⟨(some 49), .move (.tmp 5), none⟩,
    ⟨(some 50), .indexAddr 25 (.tmp 48) (.tmp 49), none⟩,
    ⟨(some 51), .fieldAddr 56 (.tmp 50) 4, none⟩,
    ⟨(some 52), .load 3 (.tmp 51), none⟩,
    ⟨(some 53), .move (.tmp 1), none⟩,
    ⟨(some 54), .binOp .neq 3 (.tmp 52) (.tmp 53) 3, none⟩] [0, 1, 5, 54])
  (.cond (.tmp 54) (.seq (.reg [⟨(some 4), .assign (.const (.int .i64 (-1))), none⟩] [4])
  .ret)
  .skip))
  (.reg [⟨(some 55), .move (.tmp 1), none⟩,
    ⟨(some 56), .binOp .add 3 (.tmp 55) (.const (.int .i64 1)) 3, none⟩,
    ⟨(some 1), .assign (.tmp 56), none⟩] [0, 1, 5])))))))))))
  (.reg [⟨(some 10), .move (.tmp 5), none⟩,
    ⟨(some 11), .binOp .add 3 (.tmp 10) (.const (.int .i64 1)) 3, none⟩,
    ⟨(some 5), .assign (.tmp 11), none⟩] [0, 1, 5])))
/-- loop.example/g01062/laws.heldPrintingS: number 40, params [0, 1] -/
def laws_heldPrintingS_c : ACode := (.seq (.reg [⟨(some 4), .assign (.const (.int .i64 0)), none⟩] [0, 1])
  (.seq (.seq (.reg [⟨(some 5), .assign (.const (.int .i64 0)), none⟩] [0, 1, 5])
  (.block 0 (.loop laws_heldPrintingS_l0)))
  (.seq (.reg [⟨(some 57), .move (.tmp 1), none⟩,
    ⟨(some 4), .assign (.tmp 57), none⟩] [4])
  .ret)))
theorem laws_heldPrintingS_k : fnOk Try.prog 40 = some (laws_heldPrintingS_c.strip, 58, [.tmp 4]) := by kernel_rfl
/-- head: [0, 2, 3, 11, 12, 13] -/
def spec_ChanceOf_l0 : ACode := (.seq (.seq (.reg [⟨(some 36), .move (.tmp 13), none⟩,
    ⟨(some 37), .move (.tmp 0), none⟩,
    ⟨(some 38), .call ⟨.builtin .len, #[(.tmp 37)], #[25]⟩, none⟩,
    ⟨(some 39), .binOp .lss 3 (.tmp 36) (.tmp 38) 3, none⟩] [0, 2, 3, 11, 12, 13, 39])
  (.cond (.tmp 39) .skip
  (.exit 0)))
  (.seq (.block 1 (.seq (.reg [⟨(some 42), .move (.tmp 0), none⟩,
    ⟨(some 43), .move (.tmp 13), none⟩,
    ⟨(some 44), .indexAddr 25 (.tmp 42) (.tmp 43), none⟩,
    ⟨(some 45), .load 56 (.tmp 44), none⟩,
    ⟨(some 46), .move (.tmp 2), none⟩,
    ⟨(some 47), .move (.tmp 3), none⟩,
    ⟨(some 48), .call ⟨.value (.func 65), #[(.tmp 45), (.tmp 46), (.tmp 47)], #[56, 3, 3]⟩, none⟩] [0, 2, 3, 11, 12, 13, 48])
  (.cond (.tmp 48) (.reg [⟨(some 49), .move (.tmp 12), none⟩,
    ⟨(some 50), .move (.tmp 0), none⟩,
    ⟨(some 51), .move (.tmp 13), none⟩,
    ⟨(some 52), .indexAddr 25 (.tmp 50) (.tmp 51), none⟩,
    ⟨(some 53), .fieldAddr 56 (.tmp 52) 2, none⟩,
    ⟨(some 54), .load 3 (.tmp 53), none⟩,
    ⟨(some 55), .binOp .add 3 (.tmp 49) (.tmp 54) 3, none⟩,
    ⟨(some 12), .assign (.tmp 55), none⟩] [0, 2, 3, 11, 12, 13])
  .skip)))
  (.reg [⟨(some 40), .move (.tmp 13), none⟩,
    ⟨(some 41), .binOp .add 3 (.tmp 40) (.const (.int .i64 1)) 3, none⟩,
    ⟨(some 13), .assign (.tmp 41), none⟩] [0, 2, 3, 11, 12, 13])))
/-- loop.example/g01062/spec.ChanceOf: number 41, params [0, 1, 2, 3] -/
def spec_ChanceOf_c : ACode := (.seq (.reg [⟨(some 8), .assign (.const (.int .i64 0)), none⟩,
    ⟨(some 9), .assign (.const (.int .i64 0)), none⟩,
    ⟨(some 10), .assign (.const (.bool false)), none⟩] [0, 1, 2, 3])
  (.seq (.reg [⟨(some 16), .move (.tmp 0), none⟩,
    ⟨(some 17), .move (.tmp 1), none⟩,
    ⟨(some 18), .call ⟨.value (.func 67), #[(.tmp 16), (.tmp 17)], #[25, 3]⟩, none⟩,
    ⟨(some 11), .assign (.tmp 18), none⟩] [0, 2, 3, 11])
  (.seq (.seq (.reg [⟨(some 19), .move (.tmp 0), none⟩,
    ⟨(some 20), .call ⟨.value (.func 52), #[(.tmp 19)], #[25]⟩, none⟩,
    ⟨(some 21), .unOp .not 4 (.tmp 20), none⟩,
    ⟨(some 22), .move (.tmp 21), none⟩,
    ⟨(some 23), .move (.tmp 11), (some (some 22, false))⟩,
    ⟨(some 24), .binOp .lss 3 (.tmp 23) (.const (.int .i64 0)) 3, (some (some 22, false))⟩,
    ⟨(some 25), .pick (.tmp 22) (.const (.bool true)) (.tmp 24), none⟩,
    ⟨(some 26), .move (.tmp 25), none⟩,
    ⟨(some 27), .move (.tmp 2), (some (some 26, false))⟩,
    ⟨(some 28), .call ⟨.value (.func 62), #[(.tmp 27)], #[3]⟩, (some (some 26, false))⟩,
    ⟨(some 29), .unOp .not 4 (.tmp 28), (some (some 26, false))⟩,
    ⟨(some 30), .pick (.tmp 26) (.const (.bool true)) (.tmp 29), none⟩,
    ⟨(some 31), .move (.tmp 30), none⟩,
    ⟨(some 32), .move (.tmp 3), (some (some 31, false))⟩,
    ⟨(some 33), .call ⟨.value (.func 58), #[(.tmp 32)], #[3]⟩, (some (some 31, false))⟩,
    ⟨(some 34), .unOp .not 4 (.tmp 33), (some (some 31, false))⟩,
    ⟨(some 35), .pick (.tmp 31) (.const (.bool true)) (.tmp 34), none⟩] [0, 2, 3, 11, 35])
  (.cond (.tmp 35) (.seq (.reg [⟨(some 8), .assign (.const (.int .i64 0)), none⟩,
    ⟨(some 9), .assign (.const (.int .i64 0)), none⟩,
    ⟨(some 10), .assign (.const (.bool false)), none⟩] [8, 9, 10])
  .ret)
  .skip))
  (.seq (.reg [⟨(some 12), .assign (.const (.int .i64 0)), none⟩] [0, 2, 3, 11, 12])
  (.seq (.seq (.reg [⟨(some 13), .assign (.const (.int .i64 0)), none⟩] [0, 2, 3, 11, 12, 13])
  (.block 0 (.loop spec_ChanceOf_l0)))
  (.seq (.seq (.reg [⟨(some 56), .move (.tmp 12), none⟩,
    ⟨(some 57), .binOp .eql 3 (.tmp 56) (.const (.int .i64 0)) 3, none⟩] [0, 2, 3, 11, 12, 57])
  (.cond (.tmp 57) (.seq (.reg [⟨(some 8), .assign (.const (.int .i64 0)), none⟩,
    ⟨(some 9), .assign (.const (.int .i64 0)), none⟩,
    ⟨(some 10), .assign (.const (.bool false)), none⟩] [8, 9, 10])
  .ret)
  .skip))
  (.seq (.seq (.reg [⟨(some 58), .move (.tmp 0), none⟩,
    ⟨(some 59), .move (.tmp 11), none⟩,
    ⟨(some 60), .indexAddr 25 (.tmp 58) (.tmp 59), none⟩,
    ⟨(some 61), .load 56 (.tmp 60), none⟩,
    ⟨(some 62), .move (.tmp 2), none⟩,
    ⟨(some 63), .move (.tmp 3), none⟩,
    ⟨(some 64), .call ⟨.value (.func 65), #[(.tmp 61), (.tmp 62), (.tmp 63)], #[56, 3, 3]⟩, none⟩,
    ⟨(some 65), .unOp .not 4 (.tmp 64), none⟩] [0, 11, 12, 65])
  (.cond (.tmp 65) (.seq (.reg [⟨(some 8), .assign (.const (.int .i64 0)), none⟩,
    ⟨(some 9), .assign (.const (.int .i64 1)), none⟩,
    ⟨(some 10), .assign (.const (.bool true)), none⟩] [8, 9, 10])
  .ret)
  .skip))
  (.seq (.reg [⟨(some 67), .move (.tmp 0), none⟩,
    ⟨(some 68), .move (.tmp 11), none⟩,
    ⟨(some 69), .indexAddr 25 (.tmp 67) (.tmp 68), none⟩,
    ⟨(some 70), .fieldAddr 56 (.tmp 69) 2, none⟩,
    ⟨(some 71), .load 3 (.tmp 70), none⟩,
    ⟨(some 72), .move (.tmp 12), none⟩,
    ⟨(some 73), .call ⟨.value (.func 68), #[(.tmp 71), (.tmp 72)], #[3, 3]⟩, none⟩,
    ⟨(some 66), .move (.tmp 73), none⟩,
    ⟨(some 74), .extract (.tmp 66) 0, none⟩,
    ⟨(some 75), .extract (.tmp 66) 1, none⟩,
    ⟨(some 14), .assign (.tmp 74), none⟩,
    ⟨(some 15), .assign (.tmp 75), none⟩] [14, 15])
  (.seq (.reg [⟨(some 76), .move (.tmp 14), none⟩,
    ⟨(some 77), .move (.tmp 15), none⟩,
    ⟨(some 8), .assign (.tmp 76), none⟩,
    ⟨(some 9), .assign (.tmp 77), none⟩,
    ⟨(some 10), .assign (.const (.bool true)), none⟩] [8, 9, 10])
  .ret)))))))))
theorem spec_ChanceOf_k : fnOk Try.prog 41 = some (spec_ChanceOf_c.strip, 78, [.tmp 8, .tmp 9, .tmp 10]) := by kernel_rfl
/-- head: [2, 3, 11, 12, 13, 38, 39, 40] -/
def impl_ChanceOf_l0 : ACode := (.seq (.reg [⟨(some 41), .binOp .lss 3 (.tmp 40) (.tmp 39) 3, none⟩] [2, 3, 11, 12, 13, 38, 39, 40, 41])
  (.seq (.cond (.tmp 41) .skip
  (.exit 0))
  (.seq (.block 1 (.seq (.reg [⟨(some 42), .move (.tmp 40), none⟩,
    ⟨(some 43), .indexAddr 25 (.tmp 38) (.tmp 40), none⟩,
    ⟨(some 44), .load 56 (.tmp 43), none⟩,
    ⟨(some 15), .alloc 56, none⟩,
    ⟨(some 14), .assign (.tmp 42), none⟩,
    ⟨none, .store 56 (.tmp 15) (.tmp 44), none⟩] [2, 3, 11, 12, 13, 14, 15, 38, 39, 40])
  (.seq (.seq (.reg [⟨(some 45), .load 56 (.tmp 15), none⟩,
    ⟨(some 46), .move (.tmp 2), none⟩,
    ⟨(some 47), .move (.tmp 3), none⟩,
    ⟨(some 48), .call ⟨.value (.func 66), #[(.tmp 45), (.tmp 46), (.tmp 47)], #[56, 3, 3]⟩, none⟩,
    ⟨(some 49), .unOp .not 4 (.tmp 48), none⟩] [2, 3, 11, 12, 13, 14, 15, 38, 39, 40, 49])
  (.cond (.tmp 49) (.exit 1)
  .skip))
  (.seq (.reg [⟨(some 50), .move (.tmp 12), none⟩,
    ⟨(some 51), .fieldAddr 56 (.tmp 15) 2, none⟩,
    ⟨(some 52), .load 3 (.tmp 51), none⟩,
    ⟨(some 53), .binOp .add 3 (.tmp 50) (.tmp 52) 3, none⟩,
    ⟨(some 12), .assign (.tmp 53), none⟩] [2, 3, 11, 12, 13, 14, 15, 38, 39, 40])
  (.seq (.reg [⟨(some 54), .move (.tmp 14), none⟩,
    ⟨(some 55), .move (.tmp 11), none⟩,
    ⟨(some 56), .binOp .eql 3 (.tmp 54) (.tmp 55) 3, none⟩] [2, 3, 11, 12, 13, 15, 38, 39, 40, 56])
  (.cond (.tmp 56) (.reg [⟨(some 57), .fieldAddr 56 (.tmp 15) 2, none⟩,
    ⟨(some 58), .load 3 (.tmp 57), none⟩,
    ⟨(some 13), .assign (.tmp 58), none⟩] [2, 3, 11, 12, 13, 38, 39, 40])
  .skip))))))
  (.reg [⟨(some 59), .binOp .add 3 (.tmp 40) (.const (.int .i64 1)) 3, none⟩,
    ⟨(some 40), .move (.tmp 59), none⟩] [2, 3, 11, 12, 13, 38, 39, 40]))))
/-- loop.example/g01062/impl.ChanceOf: number 42, params [0, 1, 2, 3] -/
def impl_ChanceOf_c : ACode := (.seq (.reg [⟨(some 8), .assign (.const (.int .i64 0)), none⟩,
    ⟨(some 9), .assign (.const (.int .i64 0)), none⟩,
    ⟨(some 10), .assign (.const (.bool false)), none⟩] [0, 1, 2, 3])
  (.seq (.reg [⟨(some 18), .move (.tmp 0), none⟩,
    ⟨(some 19), .move (.tmp 1), none⟩,
    ⟨(some 20), .call ⟨.value (.func 69), #[(.tmp 18), (.tmp 19)], #[25, 3]⟩, none⟩,
    ⟨(some 11), .assign (.tmp 20), none⟩] [0, 2, 3, 11])
  (.seq (.seq (.reg [⟨(some 21), .move (.tmp 0), none⟩,
    ⟨(some 22), .call ⟨.value (.func 54), #[(.tmp 21)], #[25]⟩, none⟩,
    ⟨(some 23), .unOp .not 4 (.tmp 22), none⟩,
    ⟨(some 24), .move (.tmp 23), none⟩,
    ⟨(some 25), .move (.tmp 11), (some (some 24, false))⟩,
    ⟨(some 26), .binOp .lss 3 (.tmp 25) (.const (.int .i64 0)) 3, (some (some 24, false))⟩,
    ⟨(some 27), .pick (.tmp 24) (.const (.bool true)) (.tmp 26), none⟩,
    ⟨(some 28), .move (.tmp 27), none⟩,
    ⟨(some 29), .move (.tmp 2), (some (some 28, false))⟩,
    ⟨(some 30), .call ⟨.value (.func 64), #[(.tmp 29)], #[3]⟩, (some (some 28, false))⟩,
    ⟨(some 31), .unOp .not 4 (.tmp 30), (some (some 28, false))⟩,
    ⟨(some 32), .pick (.tmp 28) (.const (.bool true)) (.tmp 31), none⟩,
    ⟨(some 33), .move (.tmp 32), none⟩,
    ⟨(some 34), .move (.tmp 3), (some (some 33, false))⟩,
    ⟨(some 35), .call ⟨.value (.func 60), #[(.tmp 34)], #[3]⟩, (some (some 33, false))⟩,
    ⟨(some 36), .unOp .not 4 (.tmp 35), (some (some 33, false))⟩,
    ⟨(some 37), .pick (.tmp 33) (.const (.bool true)) (.tmp 36), none⟩] [0, 2, 3, 11, 37])
  (.cond (.tmp 37) (.seq (.reg [⟨(some 8), .assign (.const (.int .i64 0)), none⟩,
    ⟨(some 9), .assign (.const (.int .i64 0)), none⟩,
    ⟨(some 10), .assign (.const (.bool false)), none⟩] [8, 9, 10])
  .ret)
  .skip))
  (.seq (.reg [⟨(some 12), .assign (.const (.int .i64 0)), none⟩,
    ⟨(some 13), .assign (.const (.int .i64 0)), none⟩] [0, 2, 3, 11, 12, 13])
  (.seq (.seq (.reg [⟨(some 38), .move (.tmp 0), none⟩,
    ⟨(some 39), .call ⟨.builtin .len, #[(.tmp 38)], #[25]⟩, none⟩,
    ⟨(some 40), .move (.const (.int .i64 0)), none⟩] [2, 3, 11, 12, 13, 38, 39, 40])
  (.block 0 (.loop impl_ChanceOf_l0)))
  (.seq (.seq (.reg [⟨(some 60), .move (.tmp 12), none⟩,
    ⟨(some 61), .binOp .eql 3 (.tmp 60) (.const (.int .i64 0)) 3, none⟩] [12, 13, 61])
  (.cond (.tmp 61) (.seq (.reg [⟨(some 8), .assign (.const (.int .i64 0)), none⟩,
    ⟨(some 9), .assign (.const (.int .i64 0)), none⟩,
    ⟨(some 10), .assign (.const (.bool false)), none⟩] [8, 9, 10])
  .ret)
  .skip))
  (.seq (.reg [⟨(some 63), .move (.tmp 13), none⟩,
    ⟨(some 64), .move (.tmp 12), none⟩,
    ⟨(some 65), .call ⟨.value (.func 70), #[(.tmp 63), (.tmp 64)], #[3, 3]⟩, none⟩,
    ⟨(some 62), .move (.tmp 65), none⟩,
    ⟨(some 66), .extract (.tmp 62) 0, none⟩,
    ⟨(some 67), .extract (.tmp 62) 1, none⟩,
    ⟨(some 16), .assign (.tmp 66), none⟩,
    ⟨(some 17), .assign (.tmp 67), none⟩] [16, 17])
  (.seq (.reg [⟨(some 68), .move (.tmp 16), none⟩,
    ⟨(some 69), .move (.tmp 17), none⟩,
    ⟨(some 8), .assign (.tmp 68), none⟩,
    ⟨(some 9), .assign (.tmp 69), none⟩,
    ⟨(some 10), .assign (.const (.bool true)), none⟩] [8, 9, 10])
  .ret))))))))
theorem impl_ChanceOf_k : fnOk Try.prog 42 = some (impl_ChanceOf_c.strip, 70, [.tmp 8, .tmp 9, .tmp 10]) := by kernel_rfl
/-- head: [0, 6, 7, 8, 9, 10] -/
def spec_UniqueTones_l0 : ACode := (.seq (.seq (.reg [⟨(some 49), .move (.tmp 10), none⟩,
    ⟨(some 50), .move (.tmp 0), none⟩,
    ⟨(some 51), .call ⟨.builtin .len, #[(.tmp 50)], #[25]⟩, none⟩,
    ⟨(some 52), .binOp .lss 3 (.tmp 49) (.tmp 51) 3, none⟩] [0, 6, 7, 8, 9, 10, 52])
  (.cond (.tmp 52) .skip
  (.exit 2)))
  (.seq (.block 3 (.seq (.reg [⟨(some 55), .move (.tmp 0), none⟩,
    ⟨(some 56), .move (.tmp 10), none⟩,
    ⟨(some 57), .indexAddr 25 (.tmp 55) (.tmp 56), none⟩,
    ⟨(some 58), .load 56 (.tmp 57), none⟩,
    ⟨(some 59), .move (.tmp 8), none⟩,
    ⟨(some 60), .call ⟨.value (.func 59), #[(.tmp 58), (.tmp 59)], #[56, 3]⟩, none⟩] [0, 6, 7, 8, 9, 10, 60])
  (.cond (.tmp 60) (.reg [⟨(some 61), .move (.tmp 9), none⟩,
    ⟨(some 62), .binOp .add 3 (.tmp 61) (.const (.int .i64 1)) 3, none⟩,
    ⟨(some 9), .assign (.tmp 62), none⟩] [0, 6, 7, 8, 9, 10])
  .skip)))
  (.reg [⟨(some 53), .move (.tmp 10), none⟩,
    ⟨(some 54), .binOp .add 3 (.tmp 53) (.const (.int .i64 1)) 3, none⟩,
    ⟨(some 10), .assign (.tmp 54), none⟩] [0, 6, 7, 8, 9, 10])))
/-- head: [0, 6, 7, 8] -/
def spec_UniqueTones_l1 : ACode := (.seq (.seq (.regQ [⟨(some 34), .move (.tmp 8), none⟩,
    ⟨(some 35), .move (.tmp 0), none⟩,
    ⟨(some 36), .move (.tmp 7), none⟩,
    ⟨(some 37), .indexAddr 25 (.tmp 35) (.tmp 36), none⟩,
    ⟨(some 38), .fieldAddr 56 (.tmp 37) 3, none⟩,
    ⟨(some 39), .load 3 (.tmp 38), none⟩,
    ⟨(some 40), .move (.tmp 0), none⟩,
    ⟨(some 41), .move (.tmp 7), none⟩,
    ⟨(some 42), .indexAddr 25 (.tmp 40) (.tmp 41), none⟩,
    ⟨(some 43), .fieldAddr 56 (.tmp 42) 4, none⟩,
    ⟨(some 44), .load 3 (.tmp 43), none⟩,
    ⟨(some 45), .binOp .add 3 (.tmp 39) (.tmp 44) 3, none⟩,
    ⟨(some 46), .binOp .leq 3 (.tmp 34) (.tmp 45) 3, none⟩] [0, 6, 7, 8, 46])
  (.cond (.tmp 46) .skip
  (.exit 0)))
  (.seq (.block 1 (.seq (.reg [⟨(some 9), .assign (.const (.int .i64 0)), none⟩] [0, 6, 7, 8, 9])
  (.seq (.seq (.reg [⟨(some 10), .assign (.const (.int .i64 0)), none⟩] [0, 6, 7, 8, 9, 10])
  (.block 2 (.loop spec_UniqueTones_l0)))
  (.seq (.reg [⟨(some 63), .move (.tmp 9), none⟩,
    ⟨(some 64), .binOp .eql 3 (.tmp 63) (.const (.int .i64 1)) 3, none⟩] [0, 6, 7, 8, 64])
  (.cond (.tmp 64) (.reg [⟨(some 65), .move (.tmp 6), none⟩,
    ⟨(some 66), .move (.tmp 8), none⟩,
    ⟨(some 67), .buildSlice 37 1 #[(0, (.tmp 66))], none⟩,
    ⟨(some 68), .call ⟨.builtin .append, #[(.tmp 65), (.tmp 67)], #[37, 37]⟩, none⟩,
    ⟨(some 6), .assign (.tmp 68), none⟩] [0, 6, 7, 8])
  .skip)))))
  (.reg [⟨(some 47), .move (.tmp 8), none⟩,
    ⟨(some 48), .binOp .add 3 (.tmp 47) (.const (.int .i64 1)) 3, none⟩,
    ⟨(some 8), .assign (.tmp 48), none⟩] [0, 6, 7, 8])))
/-- loop.example/g01062/spec.UniqueTones: number 43, params [0, 1] -/
def spec_UniqueTones_c : ACode := (.seq (.reg [⟨(some 4), .assign (.const (.slice none 0 0)), none⟩,
    ⟨(some 5), .assign (.const (.bool false)), none⟩] [0, 1])
  (.seq (.reg [⟨(some 11), .buildSlice 37 0 #[], none⟩,
    ⟨(some 6), .assign (.tmp 11), none⟩] [0, 1, 6])
  (.seq (.reg [⟨(some 12), .move (.tmp 0), none⟩,
    ⟨(some 13), .move (.tmp 1), none⟩,
    ⟨(some 14), .call ⟨.value (.func 67), #[(.tmp 12), (.tmp 13)], #[25, 3]⟩, none⟩,
    ⟨(some 7), .assign (.tmp 14), none⟩] [0, 6, 7])
  (.seq (.seq (.reg [⟨(some 15), .move (.tmp 0), none⟩,
    ⟨(some 16), .call ⟨.value (.func 52), #[(.tmp 15)], #[25]⟩, none⟩,
    ⟨(some 17), .unOp .not 4 (.tmp 16), none⟩,
    ⟨(some 18), .move (.tmp 17), none⟩,
    ⟨(some 19), .move (.tmp 7), (some (some 18, false))⟩,
    ⟨(some 20), .binOp .lss 3 (.tmp 19) (.const (.int .i64 0)) 3, (some (some 18, false))⟩,
    ⟨(some 21), .pick (.tmp 18) (.const (.bool true)) (.tmp 20), none⟩] [0, 6, 7, 21])
  (.cond (.tmp 21) (.seq (.reg [⟨(some 22), .move (.tmp 6), none⟩,
    ⟨(some 4), .assign (.tmp 22), none⟩,
    ⟨(some 5), .assign (.const (.bool false)), none⟩] [4, 5])
  .ret)
  .skip))
  (.seq (.seq (.regQ [⟨(some 23), .move (.tmp 0), none⟩,
    ⟨(some 24), .move (.tmp 7), none⟩,
    ⟨(some 25), .indexAddr 25 (.tmp 23) (.tmp 24), none⟩,
    ⟨(some 26), .fieldAddr 56 (.tmp 25) 3, none⟩,
    ⟨(some 27), .load 3 (.tmp 26), none⟩,
    ⟨(some 28), .move (.tmp 0), none⟩,
    ⟨(some 29), .move (.tmp 7), none⟩,
    ⟨(some 30), .indexAddr 25 (.tmp 28) (.tmp 29), none⟩,
    ⟨(some 31), .fieldAddr 56 (.tmp 30) 4, none⟩,
    ⟨(some 32), .load 3 (.tmp 31), none⟩,
    ⟨(some 33), .binOp .sub 3 (.tmp 27) (.tmp 32) 3, none⟩,
    ⟨(some 8), .assign (.tmp 33), none⟩] [0, 6, 7, 8])
  (.block 0 (.loop spec_UniqueTones_l1)))
  (.seq (.reg [⟨(some 69), .move (.tmp 6), none⟩,
    ⟨(some 4), .assign (.tmp 69), none⟩,
    ⟨(some 5), .assign (.const (.bool true)), none⟩] [4, 5])
  .ret))))))
theorem spec_UniqueTones_k : fnOk Try.prog 43 = some (spec_UniqueTones_c.strip, 70, [.tmp 4, .tmp 5]) := by kernel_rfl
/-- head: [0, 6, 7, 8, 9, 26, 27, 28] -/
def impl_UniqueTones_l0 : ACode := (.seq (.reg [⟨(some 29), .binOp .lss 3 (.tmp 28) (.tmp 27) 3, none⟩] [0, 6, 7, 8, 9, 26, 27, 28, 29])
  (.seq (.cond (.tmp 29) .skip
  (.exit 2))
  (.seq (.block 3 (.seq (.reg [⟨(some 30), .move (.tmp 28), none⟩,
    ⟨(some 31), .indexAddr 25 (.tmp 26) (.tmp 28), none⟩,
    ⟨(some 32), .load 56 (.tmp 31), none⟩,
    ⟨(some 11), .alloc 56, none⟩,
    ⟨(some 10), .assign (.tmp 30), none⟩,
    ⟨none, .store 56 (.tmp 11) (.tmp 32), none⟩] [0, 6, 7, 8, 9, 10, 11, 26, 27, 28])
  (.seq (.reg [⟨(some 33), .load 56 (.tmp 11), none⟩,
    ⟨(some 34), .move (.tmp 8), none⟩,
    ⟨(some 35), .call ⟨.value (.func 61), #[(.tmp 33), (.tmp 34)], #[56, 3]⟩, none⟩,
    ⟨(some 36), .move (.tmp 10), none⟩,
    ⟨(some 37), .move (.tmp 6), none⟩,
    ⟨(some 38), .binOp .eql 3 (.tmp 36) (.tmp 37) 3, none⟩,
    ⟨(some 39), .binOp .neq 4 (.tmp 35) (.tmp 38) 4, none⟩] [0, 6, 7, 8, 9, 26, 27, 28, 39])
  (.cond (.tmp 39) (.reg [⟨(some 9), .assign (.const (.bool false)), none⟩] [0, 6, 7, 8, 9, 26, 27, 28])
  .skip))))
  (.reg [⟨(some 40), .binOp .add 3 (.tmp 28) (.const (.int .i64 1)) 3, none⟩,
    ⟨(some 28), .move (.tmp 40), none⟩] [0, 6, 7, 8, 9, 26, 27, 28]))))
/-- head: [0, 6, 7, 8] -/
def impl_UniqueTones_l1 : ACode := (.seq (.seq (.reg [⟨(some 22), .move (.tmp 8), none⟩,
    ⟨(some 23), .binOp .leq 3 (.tmp 22) (.const (.int .i64 120)) 3, none⟩] [0, 6, 7, 8, 23])
  (.cond (.tmp 23) .skip
  (.exit 0)))
  (.seq (.block 1 (.seq (.reg [⟨(some 9), .assign (.const (.bool true)), none⟩] [0, 6, 7, 8, 9])
  (.seq (.seq (.reg [⟨(some 26), .move (.tmp 0), none⟩,
    ⟨(some 27), .call ⟨.builtin .len, #[(.tmp 26)], #[25]⟩, none⟩,
    ⟨(some 28), .move (.const (.int .i64 0)), none⟩] [0, 6, 7, 8, 9, 26, 27, 28])
  (.block 2 (.loop impl_UniqueTones_l0)))
  (.seq (.reg [⟨(some 41), .move (.tmp 9), none⟩] [0, 6, 7, 8, 41])
  (.cond (.tmp 41) (.reg [⟨(some 42), .move (.tmp 7), none⟩,
    ⟨(some 43), .move (.tmp 8), none⟩,
    ⟨(some 44), .buildSlice 37 1 #[(0, (.tmp 43))], none⟩,
    ⟨(some 45), .call ⟨.builtin .append, #[(.tmp 42), (.tmp 44)], #[37, 37]⟩, none⟩,
    ⟨(some 7), .assign (.tmp 45), none⟩] [0, 6, 7, 8])
  .skip)))))
  (.reg [⟨(some 24), .move (.tmp 8), none⟩,
    ⟨(some 25), .binOp .add 3 (.tmp 24) (.const (.int .i64 1)) 3, none⟩,
    ⟨(some 8), .assign (.tmp 25), none⟩] [0, 6, 7, 8])))
/-- loop.example/g01062/impl.UniqueTones: number 44, params [0, 1] -/
def impl_UniqueTones_c : ACode := (.seq (.reg [⟨(some 4), .assign (.const (.slice none 0 0)), none⟩,
    ⟨(some 5), .assign (.const (.bool false)), none⟩] [0, 1])
  (.seq (.reg [⟨(some 12), .move (.tmp 0), none⟩,
    ⟨(some 13), .move (.tmp 1), none⟩,
    ⟨(some 14), .call ⟨.value (.func 69), #[(.tmp 12), (.tmp 13)], #[25, 3]⟩, none⟩,
    ⟨(some 6), .assign (.tmp 14), none⟩] [0, 6])
  (.seq (.seq (.reg [⟨(some 15), .move (.tmp 0), none⟩,
    ⟨(some 16), .call ⟨.value (.func 54), #[(.tmp 15)], #[25]⟩, none⟩,
    ⟨(some 17), .unOp .not 4 (.tmp 16), none⟩,
    ⟨(some 18), .move (.tmp 17), none⟩,
    ⟨(some 19), .move (.tmp 6), (some (some 18, false))⟩,
    ⟨(some 20), .binOp .lss 3 (.tmp 19) (.const (.int .i64 0)) 3, (some (some 18, false))⟩,
    ⟨(some 21), .pick (.tmp 18) (.const (.bool true)) (.tmp 20), none⟩] [0, 6, 21])
  (.cond (.tmp 21) (.seq (.reg [⟨(some 4), .assign (.const (.slice none 0 0)), none⟩,
    ⟨(some 5), .assign (.const (.bool false)), none⟩] [4, 5])
  .ret)
  .skip))
  (.seq (.reg [⟨(some 7), .assign (.const (.slice none 0 0)), none⟩] [0, 6, 7])
  (.seq (.seq (.reg [⟨(some 8), .assign (.const (.int .i64 (-20))), none⟩] [0, 6, 7, 8])
  (.block 0 (.loop impl_UniqueTones_l1)))
  (.seq (.reg [⟨(some 46), .move (.tmp 7), none⟩,
    ⟨(some 4), .assign (.tmp 46), none⟩,
    ⟨(some 5), .assign (.const (.bool true)), none⟩] [4, 5])
  .ret))))))
theorem impl_UniqueTones_k : fnOk Try.prog 44 = some (impl_UniqueTones_c.strip, 47, [.tmp 4, .tmp 5]) := by kernel_rfl
/-- loop.example/g01062/laws.rBig: number 45, params [0] -/
def laws_rBig_c : ACode := (.seq (.reg [⟨(some 2), .assign (.const (.bool false)), none⟩] [0])
  (.seq (.reg [⟨(some 3), .move (.tmp 0), none⟩,
    ⟨(some 4), .call ⟨.builtin .len, #[(.tmp 3)], #[50]⟩, none⟩,
    ⟨(some 5), .binOp .gtr 3 (.tmp 4) (.const (.int .i64 65536)) 3, none⟩,
    ⟨(some 2), .assign (.tmp 5), none⟩] [2])
  .ret))
theorem laws_rBig_k : fnOk Try.prog 45 = some (laws_rBig_c.strip, 6, [.tmp 2]) := by kernel_rfl
/-- head: [0, 1, 5] -/
def laws_rInts_l0 : ACode := (.seq (.seq (.reg [⟨(some 11), .move (.tmp 5), none⟩,
    ⟨(some 12), .move (.tmp 0), none⟩,
    ⟨(some 13), .call ⟨.builtin .len, #[(.tmp 12)], #[37]⟩, none⟩,
    ⟨(some 14), .binOp .lss 3 (.tmp 11) (.tmp 13) 3, none⟩] [0, 1, 5, 14])
  (.cond (.tmp 14) .skip
  (.exit 0)))
  (.seq (.block 1 (.seq (.regQ [⟨(some 17), .move (.tmp 0), none⟩,
    ⟨(some 18), .move (.tmp 5), none⟩,
    ⟨(some 19), .indexAddr 37 (.tmp 17) (.tmp 18), none⟩,
    ⟨(some 20), .load 3 (.tmp 19), none⟩,
    ⟨(some 21), .move (.tmp 1), none⟩,
    ⟨(some 22), .move (.tmp 5), none⟩,
    ⟨(some 23), .indexAddr 37 (.tmp 21) (.tmp 22), none⟩,
    ⟨(some 24), .load 3 (.tmp 23), none⟩,
    ⟨(some 25), .binOp .neq 3 (.tmp 20) (.tmp 24) 3, none⟩] [0, 1, 5, 25])
  (.cond (.tmp 25) (.seq (.reg [⟨(some 4), .assign (.const (.bool false)), none⟩] [4])
  .ret)
  .skip)))
  (.reg [⟨(some 15), .move (.tmp 5), none⟩,
    ⟨(some 16), .binOp .add 3 (.tmp 15) (.const (.int .i64 1)) 3, none⟩,
    ⟨(some 5), .assign (.tmp 16), none⟩] [0, 1, 5])))
/-- loop.example/g01062/laws.rInts: number 47, params [0, 1] -/
def laws_rInts_c : ACode := (.seq (.reg [⟨(some 4), .assign (.const (.bool false)), none⟩] [0, 1])
  (.seq (.seq (.reg [⟨(some 6), .move (.tmp 0), none⟩,
    ⟨(some 7), .call ⟨.builtin .len, #[(.tmp 6)], #[37]⟩, none⟩,
    ⟨(some 8), .move (.tmp 1), none⟩,
    ⟨(some 9), .call ⟨.builtin .len, #[(.tmp 8)], #[37]⟩, none⟩,
    ⟨(some 10), .binOp .neq 3 (.tmp 7) (.tmp 9) 3, none⟩] [0, 1, 10])
  (.cond (.tmp 10) (.seq (.reg [⟨(some 4), .assign (.const (.bool false)), none⟩] [4])
  .ret)
  .skip))
  (.seq (.seq (.reg [⟨(some 5), .assign (.const (.int .i64 0)), none⟩] [0, 1, 5])
  (.block 0 (.loop laws_rInts_l0)))
  (.seq (.reg [⟨(some 4), .assign (.const (.bool true)), none⟩] [4])
  .ret))))
theorem laws_rInts_k : fnOk Try.prog 47 = some (laws_rInts_c.strip, 26, [.tmp 4]) := by kernel_rfl
/-- head: [0, 1, 5] -/
def laws_rHas_l0 : ACode := (.seq (.seq (.reg [⟨(some 6), .move (.tmp 5), none⟩,
    ⟨(some 7), .move (.tmp 0), none⟩,
    ⟨(some 8), .call ⟨.builtin .len, #[(.tmp 7)], #[37]⟩, none⟩,
    ⟨(some 9), .binOp .lss 3 (.tmp 6) (.tmp 8) 3, none⟩] [0, 1, 5, 9])
  (.cond (.tmp 9) .skip
  (.exit 0)))
  (.seq (.block 1 (.seq (.reg [⟨(some 12), .move (.tmp 0), none⟩,
    ⟨(some 13), .move (.tmp 5), none⟩,
    ⟨(some 14), .indexAddr 37 (.tmp 12) (.tmp 13), none⟩,
    ⟨(some 15), .load 3 (.tmp 14), none⟩,
    ⟨(some 16), .move (.tmp 1), none⟩,
    ⟨(some 17), .binOp .eql 3 (.tmp 15) (.tmp 16) 3, none⟩] [0, 1, 5, 17])
  (.cond (.tmp 17) (.seq (.reg [⟨(some 4), .assign (.const (.bool true)), none⟩] [4])
  .ret)
  .skip)))
  (.reg [⟨(some 10), .move (.tmp 5), none⟩,
    ⟨(some 11), .binOp .add 3 (.tmp 10) (.const (.int .i64 1)) 3, none⟩,
    ⟨(some 5), .assign (.tmp 11), none⟩] [0, 1, 5])))
/-- loop.example/g01062/laws.rHas: number 48, params [0, 1] -/
def laws_rHas_c : ACode := (.seq (.reg [⟨(some 4), .assign (.const (.bool false)), none⟩] [0, 1])
  (.seq (.seq (.reg [⟨(some 5), .assign (.const (.int .i64 0)), none⟩] [0, 1, 5])
  (.block 0 (.loop laws_rHas_l0)))
  (.seq (.reg [⟨(some 4), .assign (.const (.bool false)), none⟩] [4])
  .ret)))
theorem laws_rHas_k : fnOk Try.prog 48 = some (laws_rHas_c.strip, 18, [.tmp 4]) := by kernel_rfl
/-- head: [0, 3] -/
def spec_l14Good_l0 : ACode := (.seq (.seq (.reg [⟨(some 4), .move (.tmp 3), none⟩,
    ⟨(some 5), .move (.tmp 0), none⟩,
    ⟨(some 6), .call ⟨.builtin .len, #[(.tmp 5)], #[25]⟩, none⟩,
    ⟨(some 7), .binOp .lss 3 (.tmp 4) (.tmp 6) 3, none⟩] [0, 3, 7])
  (.cond (.tmp 7) .skip
  (.exit 0)))
  (.seq (.block 1 (.seq (.regQ [⟨(some 10), .move (.tmp 0), none⟩,
    ⟨(some 11), .move (.tmp 3), none⟩,
    ⟨(some 12), .indexAddr 25 (.tmp 10) (.tmp 11), none⟩,
    ⟨(some 13), .load 56 (.tmp 12), none⟩,
    ⟨(some 14), .call ⟨.value (.func 76), #[(.tmp 13)], #[56]⟩, none⟩,
    ⟨(some 15), .unOp .not 4 (.tmp 14), none⟩,
    ⟨(some 16), .move (.tmp 15), none⟩,
    ⟨(some 17), .move (.tmp 3), (some (some 16, false))⟩,
    ⟨(some 18), .binOp .gtr 3 (.tmp 17) (.const (.int .i64 0)) 3, (some (some 16, false))⟩,
    ⟨(some 19), .move (.tmp 18), (some (some 16, false))⟩,
    ⟨(some 20), .move (.tmp 0), (some (some 19, true))⟩,
    ⟨(some 21), .move (.tmp 3), (some (some 19, true))⟩,
    ⟨(some 22), .binOp .sub 3 (.tmp 21) (.const (.int .i64 1)) 3, (some (some 19, true))⟩,
    ⟨(some 23), .indexAddr 25 (.tmp 20) (.tmp 22), (some (some 19, true))⟩,
    ⟨(some 24), .fieldAddr 56 (.tmp 23) 0, (some (some 19, true))⟩,
    ⟨(some 25), .load 3 (.tmp 24), (some (some 19, true))⟩,
    ⟨(some 26), .move (.tmp 0), (some (some 19, true))⟩,
    ⟨(some 27), .move (.tmp 3), (some (some 19, true))⟩,
    ⟨(some 28), .indexAddr 25 (.tmp 26) (.tmp 27), (some (some 19, true))⟩,
    ⟨(some 29), .fieldAddr 56 (.tmp 28) 0, (some (some 19, true))⟩,
    ⟨(some 30), .load 3 (.tmp 29), (some (some 19, true))⟩,
    ⟨(some 31), .binOp .geq 3 (.tmp 25) (.tmp 30) 3, (some (some 19, true))⟩,
    ⟨(some 32), .move (.tmp 31), (some (some 19, true))⟩,
    ⟨(some 33), .move (.tmp 0), (some (some 32, false))⟩,
    ⟨(some 34), .move (.tmp 3), (some (some 32, false))⟩,
    ⟨(some 35), .binOp .sub 3 (.tmp 34) (.const (.int .i64 1)) 3, (some (some 32, false))⟩,
    ⟨(some 36), .indexAddr 25 (.tmp 33) (.tmp 35), (some (some 32, false))⟩,
    ⟨(some 37), .fieldAddr 56 (.tmp 36) 1, (some (some 32, false))⟩,
    ⟨(some 38), .load 3 (.tmp 37), (some (some 32, false))⟩,
    ⟨(some 39), .move (.tmp 0), (some (some 32, false))⟩,
    ⟨(some 40), .move (.tmp 3), (some (some 32, false))⟩,
    ⟨(some 41), .indexAddr 25 (.tmp 39) (.tmp 40), (some (some 32, false))⟩,
    ⟨(some 42), .fieldAddr 56 (.tmp 41) 1, (some (some 32, false))⟩,
    ⟨(some 43), .load 3 (.tmp 42), (some (some 32, false))⟩,
    ⟨(some 44), .binOp .geq 3 (.tmp 38) (.tmp 43) 3, (some (some 32, false))⟩,
    ⟨(some 45), .pick (.tmp 32) (.const (.bool true)) (.tmp 44), (some (some 19, true))⟩,
    ⟨(some 46), .pick (.tmp 19) (.tmp 45) (.const (.bool false)), (some (some 16, false))⟩,
    ⟨(some 47), .pick (.tmp 16) (.const (.bool true)) (.tmp 46), none⟩] [0, 3, 47])
  (.cond (.tmp 47) (.seq (.reg [⟨(some 2), .assign (.const (.bool false)), none⟩] [2])
  .ret)
  .skip)))
  (.reg [⟨(some 8), .move (.tmp 3), none⟩,
    ⟨(some 9), .binOp .add 3 (.tmp 8) (.const (.int .i64 1)) 3, none⟩,
    ⟨(some 3), .assign (.tmp 9), none⟩] [0, 3])))
/-- loop.example/g01062/spec.l14Good: number 52, params [0] -/
def spec_l14Good_c : ACode := (.seq (.reg [⟨(some 2), .assign (.const (.bool false)), none⟩] [0])
  (.seq (.seq (.reg [⟨(some 3), .assign (.const (.int .i64 0)), none⟩] [0, 3])
  (.block 0 (.loop spec_l14Good_l0)))
  (.seq (.reg [⟨(some 48), .move (.tmp 0), none⟩,
    ⟨(some 49), .call ⟨.builtin .len, #[(.tmp 48)], #[25]⟩, none⟩,
    ⟨(some 50), .binOp .leq 3 (.tmp 49) (.const (.int .i64 12)) 3, none⟩,
    ⟨(some 2), .assign (.tmp 50), none⟩] [2])
  .ret)))
theorem spec_l14Good_k : fnOk Try.prog 52 = some (spec_l14Good_c.strip, 51, [.tmp 2]) := by kernel_rfl
/-- loop.example/g01062/laws.toPrinting: number 53, params [0] -/
def laws_toPrinting_c : ACode := (.seq (.reg [⟨(some 1), .box 62 (.tmp 0), none⟩,
    ⟨(some 2), .alloc 56, none⟩] [1, 2])
  (.seq (.reg [⟨(some 3), .alloc 56, none⟩] [1, 2, 3])
  (.seq (.reg [⟨(some 4), .fieldAddr 62 (.tmp 1) 0, none⟩,
    ⟨(some 5), .load 3 (.tmp 4), none⟩,
    ⟨(some 6), .fieldAddr 56 (.tmp 3) 0, none⟩,
    ⟨none, .store 3 (.tmp 6) (.tmp 5), none⟩] [1, 2, 3])
  (.seq (.reg [⟨(some 7), .fieldAddr 62 (.tmp 1) 1, none⟩,
    ⟨(some 8), .load 3 (.tmp 7), none⟩,
    ⟨(some 9), .fieldAddr 56 (.tmp 3) 1, none⟩,
    ⟨none, .store 3 (.tmp 9) (.tmp 8), none⟩] [1, 2, 3])
  (.seq (.reg [⟨(some 10), .fieldAddr 62 (.tmp 1) 2, none⟩,
    ⟨(some 11), .load 3 (.tmp 10), none⟩,
    ⟨(some 12), .fieldAddr 56 (.tmp 3) 2, none⟩,
    ⟨none, .store 3 (.tmp 12) (.tmp 11), none⟩] [1, 2, 3])
  (.seq (.reg [⟨(some 13), .fieldAddr 62 (.tmp 1) 3, none⟩,
    ⟨(some 14), .load 3 (.tmp 13), none⟩,
    ⟨(some 15), .fieldAddr 56 (.tmp 3) 3, none⟩,
    ⟨none, .store 3 (.tmp 15) (.tmp 14), none⟩] [1, 2, 3])
  (.seq (.reg [⟨(some 16), .fieldAddr 62 (.tmp 1) 4, none⟩,
    ⟨(some 17), .load 3 (.tmp 16), none⟩,
    ⟨(some 18), .fieldAddr 56 (.tmp 3) 4, none⟩,
    ⟨none, .store 3 (.tmp 18) (.tmp 17), none⟩] [2, 3])
  (.seq (.reg [⟨(some 19), .load 56 (.tmp 3), none⟩,
    ⟨none, .store 56 (.tmp 2) (.tmp 19), none⟩] [2])
  .ret))))))))
theorem laws_toPrinting_k : fnOk Try.prog 53 = some (laws_toPrinting_c.strip, 20, [.cell 2 56]) := by kernel_rfl
/-- head: [0, 5, 6, 7] -/
def impl_arePrintings_l0 : ACode := (.seq (.reg [⟨(some 8), .binOp .lss 3 (.tmp 7) (.tmp 6) 3, none⟩] [0, 5, 6, 7, 8])
  (.seq (.cond (.tmp 8) .skip
  (.exit 0))
  (.seq (.block 1 (.seq (.reg [⟨(some 9), .move (.tmp 7), none⟩,
    ⟨(some 10), .indexAddr 25 (.tmp 5) (.tmp 7), none⟩,
    ⟨(some 11), .load 56 (.tmp 10), none⟩,
    ⟨(some 4), .alloc 56, none⟩,
    ⟨(some 3), .assign (.tmp 9), none⟩,
    ⟨none, .store 56 (.tmp 4) (.tmp 11), none⟩] [0, 3, 4, 5, 6, 7])
  (.seq (.regQ [⟨(some 12), .load 56 (.tmp 4), none⟩,
    ⟨(some 13), .call ⟨.value (.func 77), #[(.tmp 12)], #[56]⟩, none⟩,
    ⟨(some 14), .unOp .not 4 (.tmp 13), none⟩,
    ⟨(some 15), .move (.tmp 14), none⟩,
    ⟨(some 16), .move (.tmp 3), (some (some 15, false))⟩,
    ⟨(some 17), .binOp .gtr 3 (.tmp 16) (.const (.int .i64 0)) 3, (some (some 15, false))⟩,
    ⟨(some 18), .move (.tmp 17), (some (some 15, false))⟩,
    ⟨(some 19), .move (.tmp 0), (some (some 18, true))⟩,
    ⟨(some 20), .move (.tmp 3), (some (some 18, true))⟩,
    ⟨(some 21), .binOp .sub 3 (.tmp 20) (.const (.int .i64 1)) 3, (some (some 18, true))⟩,
    ⟨(some 22), .indexAddr 25 (.tmp 19) (.tmp 21), (some (some 18, true))⟩,
    ⟨(some 23), .fieldAddr 56 (.tmp 22) 0, (some (some 18, true))⟩,
    ⟨(some 24), .load 3 (.tmp 23), (some (some 18, true))⟩,
    ⟨(some 25), .fieldAddr 56 (.tmp 4) 0, (some (some 18, true))⟩,
    ⟨(some 26), .load 3 (.tmp 25), (some (some 18, true))⟩,
    ⟨(some 27), .binOp .geq 3 (.tmp 24) (.tmp 26) 3, (some (some 18, true))⟩,
    ⟨(some 28), .move (.tmp 27), (some (some 18, true))⟩,
    ⟨(some 29), .move (.tmp 0), (some (some 28, false))⟩,
    ⟨(some 30), .move (.tmp 3), (some (some 28, false))⟩,
    ⟨(some 31), .binOp .sub 3 (.tmp 30) (.const (.int .i64 1)) 3, (some (some 28, false))⟩,
    ⟨(some 32), .indexAddr 25 (.tmp 29) (.tmp 31), (some (some 28, false))⟩,
    ⟨(some 33), .fieldAddr 56 (.tmp 32) 1, (some (some 28, false))⟩,
    ⟨(some 34), .load 3 (.tmp 33), (some (some 28, false))⟩,
    ⟨(some 35), .fieldAddr 56 (.tmp 4) 1, (some (some 28, false))⟩,
    ⟨(some 36), .load 3 (.tmp 35), (some (some 28, false))⟩,
    ⟨(some 37), .binOp .geq 3 (.tmp 34) (.tmp 36) 3, (some (some 28, false))⟩,
    ⟨(some 38), .pick (.tmp 28) (.const (.bool true)) (.tmp 37), (some (some 18, true))⟩,
    ⟨(some 39), .pick (.tmp 18) (.tmp 38) (.const (.bool false)), (some (some 15, false))⟩,
    ⟨(some 40), .pick (.tmp 15) (.const (.bool true)) (.tmp 39), none⟩] [0, 5, 6, 7, 40])
  (.cond (.tmp 40) (.seq (.reg [⟨(some 2), .assign (.const (.bool false)), none⟩] [2])
  .ret)
  .skip))))
  (.reg [⟨(some 41), .binOp .add 3 (.tmp 7) (.const (.int .i64 1)) 3, none⟩,
    ⟨(some 7), .move (.tmp 41), none⟩] [0, 5, 6, 7]))))
/-- loop.example/g01062/impl.arePrintings: number 54, params [0] -/
def impl_arePrintings_c : ACode := (.seq (.reg [⟨(some 2), .assign (.const (.bool false)), none⟩] [0])
  (.seq (.seq (.reg [⟨(some 5), .move (.tmp 0), none⟩,
    ⟨(some 6), .call ⟨.builtin .len, #[(.tmp 5)], #[25]⟩, none⟩,
    ⟨(some 7), .move (.const (.int .i64 0)), none⟩] [0, 5, 6, 7])
  (.block 0 (.loop impl_arePrintings_l0)))
  (.seq (.reg [⟨(some 42), .move (.tmp 0), none⟩,
    ⟨(some 43), .call ⟨.builtin .len, #[(.tmp 42)], #[25]⟩, none⟩,
    ⟨(some 44), .binOp .leq 3 (.tmp 43) (.const (.int .i64 12)) 3, none⟩,
    ⟨(some 2), .assign (.tmp 44), none⟩] [2])
  .ret)))
theorem impl_arePrintings_k : fnOk Try.prog 54 = some (impl_arePrintings_c.strip, 45, [.tmp 2]) := by kernel_rfl
/-- loop.example/g01062/laws.eqPrinting: number 55, params [0, 1] -/
def laws_eqPrinting_c : ACode := (.seq (.reg [⟨(some 2), .box 56 (.tmp 0), none⟩,
    ⟨(some 3), .box 56 (.tmp 1), none⟩,
    ⟨(some 4), .assign (.const (.bool false)), none⟩] [2, 3])
  (.seq (.seq (.reg [⟨(some 5), .fieldAddr 56 (.tmp 2) 0, none⟩,
    ⟨(some 6), .load 3 (.tmp 5), none⟩,
    ⟨(some 7), .fieldAddr 56 (.tmp 3) 0, none⟩,
    ⟨(some 8), .load 3 (.tmp 7), none⟩,
    ⟨(some 9), .binOp .neq 3 (.tmp 6) (.tmp 8) 3, none⟩] [2, 3, 9])
  (.cond (.tmp 9) (.seq (.reg [⟨(some 4), .assign (.const (.bool false)), none⟩] [4])
  .ret)
  .skip))
  (.seq (.seq (.reg [⟨(some 10), .fieldAddr 56 (.tmp 2) 1, none⟩,
    ⟨(some 11), .load 3 (.tmp 10), none⟩,
    ⟨(some 12), .fieldAddr 56 (.tmp 3) 1, none⟩,
    ⟨(some 13), .load 3 (.tmp 12), none⟩,
    ⟨(some 14), .binOp .neq 3 (.tmp 11) (.tmp 13) 3, none⟩] [2, 3, 14])
  (.cond (.tmp 14) (.seq (.reg [⟨(some 4), .assign (.const (.bool false)), none⟩] [4])
  .ret)
  .skip))
  (.seq (.seq (.reg [⟨(some 15), .fieldAddr 56 (.tmp 2) 2, none⟩,
    ⟨(some 16), .load 3 (.tmp 15), none⟩,
    ⟨(some 17), .fieldAddr 56 (.tmp 3) 2, none⟩,
    ⟨(some 18), .load 3 (.tmp 17), none⟩,
    ⟨(some 19), .binOp .neq 3 (.tmp 16) (.tmp 18) 3, none⟩] [2, 3, 19])
  (.cond (.tmp 19) (.seq (.reg [⟨(some 4), .assign (.const (.bool false)), none⟩] [4])
  .ret)
  .skip))
  (.seq (.seq (.reg [⟨(some 20), .fieldAddr 56 (.tmp 2) 3, none⟩,
    ⟨(some 21), .load 3 (.tmp 20), none⟩,
    ⟨(some 22), .fieldAddr 56 (.tmp 3) 3, none⟩,
    ⟨(some 23), .load 3 (.tmp 22), none⟩,
    ⟨(some 24), .binOp .neq 3 (.tmp 21) (.tmp 23) 3, none⟩] [2, 3, 24])
  (.cond (.tmp 24) (.seq (.reg [⟨(some 4), .assign (.const (.bool false)), none⟩] [4])
  .ret)
  .skip))
  (.seq (.seq (.reg [⟨(some 25), .fieldAddr 56 (.tmp 2) 4, none⟩,
    ⟨(some 26), .load 3 (.tmp 25), none⟩,
    ⟨(some 27), .fieldAddr 56 (.tmp 3) 4, none⟩,
    ⟨(some 28), .load 3 (.tmp 27), none⟩,
    ⟨(some 29), .binOp .neq 3 (.tmp 26) (.tmp 28) 3, none⟩] [29])
  (.cond (.tmp 29) (.seq (.reg [⟨(some 4), .assign (.const (.bool false)), none⟩] [4])
  .ret)
  .skip))
  (.seq (.reg [⟨(some 4), .assign (.const (.bool true)), none⟩] [4])
  .ret)))))))
theorem laws_eqPrinting_k : fnOk Try.prog 55 = some (laws_eqPrinting_c.strip, 30, [.tmp 4]) := by kernel_rfl
/-- loop.example/g01062/spec.l1In: number 56, params [0, 1, 2] -/
def spec_l1In_c : ACode := (.seq (.reg [⟨(some 6), .assign (.const (.bool false)), none⟩] [0, 1, 2])
  (.seq (.reg [⟨(some 7), .move (.tmp 0), none⟩,
    ⟨(some 8), .move (.tmp 1), none⟩,
    ⟨(some 9), .binOp .geq 3 (.tmp 7) (.tmp 8) 3, none⟩,
    ⟨(some 10), .move (.tmp 9), none⟩,
    ⟨(some 11), .move (.tmp 0), (some (some 10, true))⟩,
    ⟨(some 12), .move (.tmp 2), (some (some 10, true))⟩,
    ⟨(some 13), .binOp .leq 3 (.tmp 11) (.tmp 12) 3, (some (some 10, true))⟩,
    ⟨(some 14), .pick (.tmp 10) (.tmp 13) (.const (.bool false)), none⟩,
    ⟨(some 6), .assign (.tmp 14), none⟩] [6])
  .ret))
theorem spec_l1In_k : fnOk Try.prog 56 = some (spec_l1In_c.strip, 15, [.tmp 6]) := by kernel_rfl
/-- loop.example/g01062/impl.inRange: number 57, params [0, 1, 2] -/
def impl_inRange_c : ACode := (.seq (.reg [⟨(some 6), .assign (.const (.bool false)), none⟩] [0, 1, 2])
  (.seq (.reg [⟨(some 7), .move (.tmp 0), none⟩,
    ⟨(some 8), .move (.tmp 1), none⟩,
    ⟨(some 9), .binOp .geq 3 (.tmp 7) (.tmp 8) 3, none⟩,
    ⟨(some 10), .move (.tmp 9), none⟩,
    ⟨(some 11), .move (.tmp 0), (some (some 10, true))⟩,
    ⟨(some 12), .move (.tmp 2), (some (some 10, true))⟩,
    ⟨(some 13), .binOp .leq 3 (.tmp 11) (.tmp 12) 3, (some (some 10, true))⟩,
    ⟨(some 14), .pick (.tmp 10) (.tmp 13) (.const (.bool false)), none⟩,
    ⟨(some 6), .assign (.tmp 14), none⟩] [6])
  .ret))
theorem impl_inRange_k : fnOk Try.prog 57 = some (impl_inRange_c.strip, 15, [.tmp 6]) := by kernel_rfl
/-- loop.example/g01062/spec.l14Tone: number 58, params [0] -/
def spec_l14Tone_c : ACode := (.seq (.reg [⟨(some 2), .assign (.const (.bool false)), none⟩] [0])
  (.seq (.reg [⟨(some 3), .move (.tmp 0), none⟩,
    ⟨(some 4), .call ⟨.value (.func 56), #[(.tmp 3), (.const (.int .i64 (-20))), (.const (.int .i64 120))], #[3, 3, 3]⟩, none⟩,
    ⟨(some 2), .assign (.tmp 4), none⟩] [2])
  .ret))
theorem spec_l14Tone_k : fnOk Try.prog 58 = some (spec_l14Tone_c.strip, 5, [.tmp 2]) := by kernel_rfl
/-- loop.example/g01062/spec.l14Has: number 59, params [0, 1] -/
def spec_l14Has_c : ACode := (.seq (.reg [⟨(some 2), .box 56 (.tmp 0), none⟩,
    ⟨(some 4), .assign (.const (.bool false)), none⟩] [1, 2])
  (.seq (.reg [⟨(some 5), .move (.tmp 1), none⟩,
    ⟨(some 6), .fieldAddr 56 (.tmp 2) 3, none⟩,
    ⟨(some 7), .load 3 (.tmp 6), none⟩,
    ⟨(some 8), .fieldAddr 56 (.tmp 2) 4, none⟩,
    ⟨(some 9), .load 3 (.tmp 8), none⟩,
    ⟨(some 10), .binOp .sub 3 (.tmp 7) (.tmp 9) 3, none⟩,
    ⟨(some 11), .fieldAddr 56 (.tmp 2) 3, none⟩,
    ⟨(some 12), .load 3 (.tmp 11), none⟩,
    ⟨(some 13), .fieldAddr 56 (.tmp 2) 4, none⟩,
    ⟨(some 14), .load 3 (.tmp 13), none⟩,
    ⟨(some 15), .binOp .add 3 (.tmp 12) (.tmp 14) 3, none⟩,
    ⟨(some 16), .call ⟨.value (.func 56), #[(.tmp 5), (.tmp 10), (.tmp 15)], #[3, 3, 3]⟩, none⟩,
    ⟨(some 4), .assign (.tmp 16), none⟩] [4])
  .ret))
theorem spec_l14Has_k : fnOk Try.prog 59 = some (spec_l14Has_c.strip, 17, [.tmp 4]) := by kernel_rfl
/-- loop.example/g01062/impl.isTone: number 60, params [0] -/
def impl_isTone_c : ACode := (.seq (.reg [⟨(some 2), .assign (.const (.bool false)), none⟩] [0])
  (.seq (.reg [⟨(some 3), .move (.tmp 0), none⟩,
    ⟨(some 4), .call ⟨.value (.func 57), #[(.tmp 3), (.const (.int .i64 (-20))), (.const (.int .i64 120))], #[3, 3, 3]⟩, none⟩,
    ⟨(some 2), .assign (.tmp 4), none⟩] [2])
  .ret))
theorem impl_isTone_k : fnOk Try.prog 60 = some (impl_isTone_c.strip, 5, [.tmp 2]) := by kernel_rfl
/-- (loop.example/g01062/impl.Printing).has: number 61, params [0, 1] -/
def _impl_Printing__has_c : ACode := (.seq (.reg [⟨(some 2), .box 56 (.tmp 0), none⟩,
    ⟨(some 4), .assign (.const (.bool false)), none⟩] [1, 2])
  (.seq (.reg [⟨(some 5), .move (.tmp 1), none⟩,
    ⟨(some 6), .fieldAddr 56 (.tmp 2) 3, none⟩,
    ⟨(some 7), .load 3 (.tmp 6), none⟩,
    ⟨(some 8), .fieldAddr 56 (.tmp 2) 4, none⟩,
    ⟨(some 9), .load 3 (.tmp 8), none⟩,
    ⟨(some 10), .binOp .sub 3 (.tmp 7) (.tmp 9) 3, none⟩,
    ⟨(some 11), .fieldAddr 56 (.tmp 2) 3, none⟩,
    ⟨(some 12), .load 3 (.tmp 11), none⟩,
    ⟨(some 13), .fieldAddr 56 (.tmp 2) 4, none⟩,
    ⟨(some 14), .load 3 (.tmp 13), none⟩,
    ⟨(some 15), .binOp .add 3 (.tmp 12) (.tmp 14) 3, none⟩,
    ⟨(some 16), .call ⟨.value (.func 57), #[(.tmp 5), (.tmp 10), (.tmp 15)], #[3, 3, 3]⟩, none⟩,
    ⟨(some 4), .assign (.tmp 16), none⟩] [4])
  .ret))
theorem _impl_Printing__has_k : fnOk Try.prog 61 = some (_impl_Printing__has_c.strip, 17, [.tmp 4]) := by kernel_rfl
/-- loop.example/g01062/spec.l2Day: number 62, params [0] -/
def spec_l2Day_c : ACode := (.seq (.reg [⟨(some 2), .assign (.const (.bool false)), none⟩] [0])
  (.seq (.reg [⟨(some 3), .move (.tmp 0), none⟩,
    ⟨(some 4), .call ⟨.value (.func 56), #[(.tmp 3), (.const (.int .i64 0)), (.const (.int .i64 4000))], #[3, 3, 3]⟩, none⟩,
    ⟨(some 2), .assign (.tmp 4), none⟩] [2])
  .ret))
theorem spec_l2Day_k : fnOk Try.prog 62 = some (spec_l2Day_c.strip, 5, [.tmp 2]) := by kernel_rfl
/-- head: [0, 1, 5, 6] -/
def spec_l14Sum_l0 : ACode := (.seq (.seq (.reg [⟨(some 7), .move (.tmp 6), none⟩,
    ⟨(some 8), .move (.tmp 0), none⟩,
    ⟨(some 9), .call ⟨.builtin .len, #[(.tmp 8)], #[25]⟩, none⟩,
    ⟨(some 10), .binOp .lss 3 (.tmp 7) (.tmp 9) 3, none⟩] [0, 1, 5, 6, 10])
  (.cond (.tmp 10) .skip
  (.exit 0)))
  (.seq (.block 1 (.seq (.reg [⟨(some 13), .move (.tmp 0), none⟩,
    ⟨(some 14), .move (.tmp 6), none⟩,
    ⟨(some 15), .indexAddr 25 (.tmp 13) (.tmp 14), none⟩,
    ⟨(some 16), .fieldAddr 56 (.tmp 15) 1, none⟩,
    ⟨(some 17), .load 3 (.tmp 16), none⟩,
    ⟨(some 18), .move (.tmp 1), none⟩,
    ⟨(some 19), .binOp .leq 3 (.tmp 17) (.tmp 18) 3, none⟩] [0, 1, 5, 6, 19])
  (.cond (.tmp 19) (.reg [⟨(some 20), .move (.tmp 5), none⟩,
    ⟨(some 21), .move (.tmp 0), none⟩,
    ⟨(some 22), .move (.tmp 6), none⟩,
    ⟨(some 23), .indexAddr 25 (.tmp 21) (.tmp 22), none⟩,
    ⟨(some 24), .fieldAddr 56 (.tmp 23) 2, none⟩,
    ⟨(some 25), .load 3 (.tmp 24), none⟩,
    ⟨(some 26), .binOp .add 3 (.tmp 20) (.tmp 25) 3, none⟩,
    ⟨(some 5), .assign (.tmp 26), none⟩] [0, 1, 5, 6])
  .skip)))
  (.reg [⟨(some 11), .move (.tmp 6), none⟩,
    ⟨(some 12), .binOp .add 3 (.tmp 11) (.const (.int .i64 1)) 3, none⟩,
    ⟨(some 6), .assign (.tmp 12), none⟩] [0, 1, 5, 6])))
/-- loop.example/g01062/spec.l14Sum: number 63, params [0, 1] -/
def spec_l14Sum_c : ACode := (.seq (.reg [⟨(some 4), .assign (.const (.int .i64 0)), none⟩] [0, 1])
  (.seq (.reg [⟨(some 5), .assign (.const (.int .i64 0)), none⟩] [0, 1, 5])
  (.seq (.seq (.reg [⟨(some 6), .assign (.const (.int .i64 0)), none⟩] [0, 1, 5, 6])
  (.block 0 (.loop spec_l14Sum_l0)))
  (.seq (.reg [⟨(some 27), .move (.tmp 5), none⟩,
    ⟨(some 4), .assign (.tmp 27), none⟩] [4])
  .ret))))
theorem spec_l14Sum_k : fnOk Try.prog 63 = some (spec_l14Sum_c.strip, 28, [.tmp 4]) := by kernel_rfl
/-- loop.example/g01062/impl.isDay: number 64, params [0] -/
def impl_isDay_c : ACode := (.seq (.reg [⟨(some 2), .assign (.const (.bool false)), none⟩] [0])
  (.seq (.reg [⟨(some 3), .move (.tmp 0), none⟩,
    ⟨(some 4), .call ⟨.value (.func 57), #[(.tmp 3), (.const (.int .i64 0)), (.const (.int .i64 4000))], #[3, 3, 3]⟩, none⟩,
    ⟨(some 2), .assign (.tmp 4), none⟩] [2])
  .ret))
theorem impl_isDay_k : fnOk Try.prog 64 = some (impl_isDay_c.strip, 5, [.tmp 2]) := by kernel_rfl
/-- loop.example/g01062/spec.l14Can: number 65, params [0, 1, 2] -/
def spec_l14Can_c : ACode := (.seq (.reg [⟨(some 3), .box 56 (.tmp 0), none⟩,
    ⟨(some 6), .assign (.const (.bool false)), none⟩] [1, 2, 3])
  (.seq (.reg [⟨(some 7), .fieldAddr 56 (.tmp 3) 1, none⟩,
    ⟨(some 8), .load 3 (.tmp 7), none⟩,
    ⟨(some 9), .move (.tmp 1), none⟩,
    ⟨(some 10), .binOp .leq 3 (.tmp 8) (.tmp 9) 3, none⟩,
    ⟨(some 11), .move (.tmp 10), none⟩,
    ⟨(some 12), .load 56 (.tmp 3), (some (some 11, true))⟩,
    ⟨(some 13), .move (.tmp 2), (some (some 11, true))⟩,
    ⟨(some 14), .call ⟨.value (.func 59), #[(.tmp 12), (.tmp 13)], #[56, 3]⟩, (some (some 11, true))⟩,
    ⟨(some 15), .pick (.tmp 11) (.tmp 14) (.const (.bool false)), none⟩,
    ⟨(some 6), .assign (.tmp 15), none⟩] [6])
  .ret))
theorem spec_l14Can_k : fnOk Try.prog 65 = some (spec_l14Can_c.strip, 16, [.tmp 6]) := by kernel_rfl
/-- (loop.example/g01062/impl.Printing).canBe: number 66, params [0, 1, 2] -/
def _impl_Printing__canBe_c : ACode := (.seq (.reg [⟨(some 3), .box 56 (.tmp 0), none⟩,
    ⟨(some 6), .assign (.const (.bool false)), none⟩] [1, 2, 3])
  (.seq (.reg [⟨(some 7), .fieldAddr 56 (.tmp 3) 1, none⟩,
    ⟨(some 8), .load 3 (.tmp 7), none⟩,
    ⟨(some 9), .move (.tmp 1), none⟩,
    ⟨(some 10), .binOp .leq 3 (.tmp 8) (.tmp 9) 3, none⟩,
    ⟨(some 11), .move (.tmp 10), none⟩,
    ⟨(some 12), .load 56 (.tmp 3), (some (some 11, true))⟩,
    ⟨(some 13), .move (.tmp 2), (some (some 11, true))⟩,
    ⟨(some 14), .call ⟨.value (.func 61), #[(.tmp 12), (.tmp 13)], #[56, 3]⟩, (some (some 11, true))⟩,
    ⟨(some 15), .pick (.tmp 11) (.tmp 14) (.const (.bool false)), none⟩,
    ⟨(some 6), .assign (.tmp 15), none⟩] [6])
  .ret))
theorem _impl_Printing__canBe_k : fnOk Try.prog 66 = some (_impl_Printing__canBe_c.strip, 16, [.tmp 6]) := by kernel_rfl
/-- head: [0, 1, 5] -/
def spec_l14Find_l0 : ACode := (.seq (.seq (.reg [⟨(some 6), .move (.tmp 5), none⟩,
    ⟨(some 7), .move (.tmp 0), none⟩,
    ⟨(some 8), .call ⟨.builtin .len, #[(.tmp 7)], #[25]⟩, none⟩,
    ⟨(some 9), .binOp .lss 3 (.tmp 6) (.tmp 8) 3, none⟩] [0, 1, 5, 9])
  (.cond (.tmp 9) .skip
  (.exit 0)))
  (.seq (.block 1 (.seq (.reg [⟨(some 12), .move (.tmp 0), none⟩,
    ⟨(some 13), .move (.tmp 5), none⟩,
    ⟨(some 14), .indexAddr 25 (.tmp 12) (.tmp 13), none⟩,
    ⟨(some 15), .fieldAddr 56 (.tmp 14) 0, none⟩,
    ⟨(some 16), .load 3 (.tmp 15), none⟩,
    ⟨(some 17), .move (.tmp 1), none⟩,
    ⟨(some 18), .binOp .eql 3 (.tmp 16) (.tmp 17) 3, none⟩] [0, 1, 5, 18])
  (.cond (.tmp 18) (.seq (.reg [⟨(some 19), .move (.tmp 5), none⟩,
    ⟨(some 4), .assign (.tmp 19), none⟩] [4])
  .ret)
  .skip)))
  (.reg [⟨(some 10), .move (.tmp 5), none⟩,
    ⟨(some 11), .binOp .add 3 (.tmp 10) (.const (.int .i64 1)) 3, none⟩,
    ⟨(some 5), .assign (.tmp 11), none⟩] [0, 1, 5])))
/-- loop.example/g01062/spec.l14Find: number 67, params [0, 1] -/
def spec_l14Find_c : ACode := (.seq (.reg [⟨(some 4), .assign (.const (.int .i64 0)), none⟩] [0, 1])
  (.seq (.seq (.reg [⟨(some 5), .assign (.const (.int .i64 0)), none⟩] [0, 1, 5])
  (.block 0 (.loop spec_l14Find_l0)))
  (.seq (.reg [⟨(some 4), .assign (.const (.int .i64 (-1))), none⟩] [4])
  .ret)))
theorem spec_l14Find_k : fnOk Try.prog 67 = some (spec_l14Find_c.strip, 20, [.tmp 4]) := by kernel_rfl
/-- head: [0, 1, 6, 7] -/
def spec_l2Reduce_l0 : ACode := (.seq (.seq (.reg [⟨(some 14), .move (.tmp 7), none⟩,
    ⟨(some 15), .binOp .neq 3 (.tmp 14) (.const (.int .i64 0)) 3, none⟩] [0, 1, 6, 7, 15])
  (.cond (.tmp 15) .skip
  (.exit 0)))
  (.block 1 (.seq (.reg [⟨(some 16), .move (.tmp 6), none⟩,
    ⟨(some 17), .move (.tmp 7), none⟩,
    ⟨(some 18), .binOp .rem 3 (.tmp 16) (.tmp 17) 3, none⟩,
    ⟨(some 8), .assign (.tmp 18), none⟩] [0, 1, 7, 8])
  (.seq (.reg [⟨(some 19), .move (.tmp 7), none⟩,
    ⟨(some 6), .assign (.tmp 19), none⟩] [0, 1, 6, 8])
  (.reg [⟨(some 20), .move (.tmp 8), none⟩,
    ⟨(some 7), .assign (.tmp 20), none⟩] [0, 1, 6, 7])))))
/-- loop.example/g01062/spec.l2Reduce: number 68, params [0, 1] -/
def spec_l2Reduce_c : ACode := (.seq (.reg [⟨(some 4), .assign (.const (.int .i64 0)), none⟩,
    ⟨(some 5), .assign (.const (.int .i64 0)), none⟩] [0, 1])
  (.seq (.reg [⟨(some 9), .move (.tmp 0), none⟩,
    ⟨(some 10), .move (.tmp 0), none⟩,
    ⟨(some 11), .unOp .neg 3 (.tmp 10), none⟩,
    ⟨(some 12), .call ⟨.value (.func 78), #[(.tmp 9), (.tmp 11)], #[3, 3]⟩, none⟩,
    ⟨(some 13), .move (.tmp 1), none⟩,
    ⟨(some 6), .assign (.tmp 12), none⟩,
    ⟨(some 7), .assign (.tmp 13), none⟩] [0, 1, 6, 7])
  (.seq (.block 0 (.loop spec_l2Reduce_l0))
  (.seq (.regQ [⟨(some 21), .move (.tmp 0), none⟩,
    ⟨(some 22), .move (.tmp 6), none⟩,
    ⟨(some 23), .binOp .quo 3 (.tmp 21) (.tmp 22) 3, none⟩,
    ⟨(some 24), .move (.tmp 1), none⟩,
    ⟨(some 25), .move (.tmp 6), none⟩,
    ⟨(some 26), .binOp .quo 3 (.tmp 24) (.tmp 25) 3, none⟩,
    ⟨(some 4), .assign (.tmp 23), none⟩,
    ⟨(some 5), .assign (.tmp 26), none⟩] [4, 5])
  .ret))))
theorem spec_l2Reduce_k : fnOk Try.prog 68 = some (spec_l2Reduce_c.strip, 27, [.tmp 4, .tmp 5]) := by kernel_rfl
/-- loop.example/g01062/impl.printingAt: number 69, params [0, 1] -/
def impl_printingAt_c : ACode := (.seq (.reg [⟨(some 3), .box 3 (.tmp 1), none⟩,
    ⟨(some 4), .assign (.const (.int .i64 0)), none⟩] [0, 3])
  (.seq (.reg [⟨(some 5), .move (.tmp 0), none⟩,
    ⟨(some 6), .makeFunc (.func 80) #[] #[(.tmp 3)], none⟩,
    ⟨(some 7), .call ⟨.value (.func 79), #[(.tmp 5), (.tmp 6)], #[25, 78]⟩, none⟩,
    ⟨(some 4), .assign (.tmp 7), none⟩] [4])
  .ret))
theorem impl_printingAt_k : fnOk Try.prog 69 = some (impl_printingAt_c.strip, 8, [.tmp 4]) := by kernel_rfl
/-- loop.example/g01062/impl.fraction: number 70, params [0, 1] -/
def impl_fraction_c : ACode := (.seq (.reg [⟨(some 4), .assign (.const (.int .i64 0)), none⟩,
    ⟨(some 5), .assign (.const (.int .i64 0)), none⟩] [0, 1])
  (.seq (.reg [⟨(some 7), .move (.tmp 0), none⟩,
    ⟨(some 8), .move (.tmp 0), none⟩,
    ⟨(some 9), .unOp .neg 3 (.tmp 8), none⟩,
    ⟨(some 10), .call ⟨.builtin .max, #[(.tmp 7), (.tmp 9)], #[3, 3]⟩, none⟩,
    ⟨(some 11), .move (.tmp 1), none⟩,
    ⟨(some 12), .call ⟨.value (.func 81), #[(.tmp 10), (.tmp 11)], #[3, 3]⟩, none⟩,
    ⟨(some 6), .assign (.tmp 12), none⟩] [0, 1, 6])
  (.seq (.regQ [⟨(some 13), .move (.tmp 0), none⟩,
    ⟨(some 14), .move (.tmp 6), none⟩,
    ⟨(some 15), .binOp .quo 3 (.tmp 13) (.tmp 14) 3, none⟩,
    ⟨(some 16), .move (.tmp 1), none⟩,
    ⟨(some 17), .move (.tmp 6), none⟩,
    ⟨(some 18), .binOp .quo 3 (.tmp 16) (.tmp 17) 3, none⟩,
    ⟨(some 4), .assign (.tmp 15), none⟩,
    ⟨(some 5), .assign (.tmp 18), none⟩] [4, 5])
  .ret)))
theorem impl_fraction_k : fnOk Try.prog 70 = some (impl_fraction_c.strip, 19, [.tmp 4, .tmp 5]) := by kernel_rfl
/-- slices.Clone[[]loop.example/g01062/impl.Printing,loop.example/g01062/impl.Printing]: number 71, params [0] -/
def slices_Clone___impl_Printing_impl_Printing__c : ACode := (.seq (.reg [⟨(some 2), .assign (.const (.slice none 0 0)), none⟩] [0])
  (.seq (.seq (.reg [⟨(some 3), .move (.tmp 0), none⟩,
    ⟨(some 4), .binOp .eql 25 (.tmp 3) (.const (.slice none 0 0)) 25, none⟩] [0, 4])
  (.cond (.tmp 4) (.seq (.reg [⟨(some 2), .assign (.const (.slice none 0 0)), none⟩] [2])
  .ret)
  .skip))
  (.seq (.reg [⟨(some 5), .buildSlice 25 0 #[], none⟩,
    ⟨(some 6), .move (.tmp 0), none⟩,
    ⟨(some 7), .call ⟨.builtin .append, #[(.tmp 5), (.tmp 6)], #[25, 25]⟩, none⟩,
    ⟨(some 2), .assign (.tmp 7), none⟩] [2])
  .ret)))
theorem slices_Clone___impl_Printing_impl_Printing__k : fnOk Try.prog 71 = some (slices_Clone___impl_Printing_impl_Printing__c.strip, 8, [.tmp 2]) := by kernel_rfl
/-- loop.example/g01062/spec.l14One: number 76, params [0] -/
def spec_l14One_c : ACode := (.seq (.reg [⟨(some 1), .box 56 (.tmp 0), none⟩,
    ⟨(some 2), .assign (.const (.bool false)), none⟩] [1])
  (.seq (.reg [⟨(some 3), .fieldAddr 56 (.tmp 1) 0, none⟩,
    ⟨(some 4), .load 3 (.tmp 3), none⟩,
    ⟨(some 5), .call ⟨.value (.func 56), #[(.tmp 4), (.const (.int .i64 1)), (.const (.int .i64 99))], #[3, 3, 3]⟩, none⟩,
    ⟨(some 6), .move (.tmp 5), none⟩,
    ⟨(some 7), .fieldAddr 56 (.tmp 1) 1, (some (some 6, true))⟩,
    ⟨(some 8), .load 3 (.tmp 7), (some (some 6, true))⟩,
    ⟨(some 9), .call ⟨.value (.func 62), #[(.tmp 8)], #[3]⟩, (some (some 6, true))⟩,
    ⟨(some 10), .pick (.tmp 6) (.tmp 9) (.const (.bool false)), none⟩,
    ⟨(some 11), .move (.tmp 10), none⟩,
    ⟨(some 12), .fieldAddr 56 (.tmp 1) 2, (some (some 11, true))⟩,
    ⟨(some 13), .load 3 (.tmp 12), (some (some 11, true))⟩,
    ⟨(some 14), .call ⟨.value (.func 56), #[(.tmp 13), (.const (.int .i64 1)), (.const (.int .i64 9999))], #[3, 3, 3]⟩, (some (some 11, true))⟩,
    ⟨(some 15), .pick (.tmp 11) (.tmp 14) (.const (.bool false)), none⟩,
    ⟨(some 16), .move (.tmp 15), none⟩,
    ⟨(some 17), .fieldAddr 56 (.tmp 1) 3, (some (some 16, true))⟩,
    ⟨(some 18), .load 3 (.tmp 17), (some (some 16, true))⟩,
    ⟨(some 19), .call ⟨.value (.func 56), #[(.tmp 18), (.const (.int .i64 0)), (.const (.int .i64 100))], #[3, 3, 3]⟩, (some (some 16, true))⟩,
    ⟨(some 20), .pick (.tmp 16) (.tmp 19) (.const (.bool false)), none⟩,
    ⟨(some 21), .move (.tmp 20), none⟩,
    ⟨(some 22), .fieldAddr 56 (.tmp 1) 4, (some (some 21, true))⟩,
    ⟨(some 23), .load 3 (.tmp 22), (some (some 21, true))⟩,
    ⟨(some 24), .call ⟨.value (.func 56), #[(.tmp 23), (.const (.int .i64 0)), (.const (.int .i64 20))], #[3, 3, 3]⟩, (some (some 21, true))⟩,
    ⟨(some 25), .pick (.tmp 21) (.tmp 24) (.const (.bool false)), none⟩,
    ⟨(some 2), .assign (.tmp 25), none⟩] [2])
  .ret))
theorem spec_l14One_k : fnOk Try.prog 76 = some (spec_l14One_c.strip, 26, [.tmp 2]) := by kernel_rfl
/-- loop.example/g01062/impl.isPrinting: number 77, params [0] -/
def impl_isPrinting_c : ACode := (.seq (.reg [⟨(some 1), .box 56 (.tmp 0), none⟩,
    ⟨(some 2), .assign (.const (.bool false)), none⟩] [1])
  (.seq (.reg [⟨(some 3), .fieldAddr 56 (.tmp 1) 0, none⟩,
    ⟨(some 4), .load 3 (.tmp 3), none⟩,
    ⟨(some 5), .call ⟨.value (.func 57), #[(.tmp 4), (.const (.int .i64 1)), (.const (.int .i64 99))], #[3, 3, 3]⟩, none⟩,
    ⟨(some 6), .move (.tmp 5), none⟩,
    ⟨(some 7), .fieldAddr 56 (.tmp 1) 1, (some (some 6, true))⟩,
    ⟨(some 8), .load 3 (.tmp 7), (some (some 6, true))⟩,
    ⟨(some 9), .call ⟨.value (.func 64), #[(.tmp 8)], #[3]⟩, (some (some 6, true))⟩,
    ⟨(some 10), .pick (.tmp 6) (.tmp 9) (.const (.bool false)), none⟩,
    ⟨(some 11), .move (.tmp 10), none⟩,
    ⟨(some 12), .fieldAddr 56 (.tmp 1) 2, (some (some 11, true))⟩,
    ⟨(some 13), .load 3 (.tmp 12), (some (some 11, true))⟩,
    ⟨(some 14), .call ⟨.value (.func 57), #[(.tmp 13), (.const (.int .i64 1)), (.const (.int .i64 9999))], #[3, 3, 3]⟩, (some (some 11, true))⟩,
    ⟨(some 15), .pick (.tmp 11) (.tmp 14) (.const (.bool false)), none⟩,
    ⟨(some 16), .move (.tmp 15), none⟩,
    ⟨(some 17), .fieldAddr 56 (.tmp 1) 3, (some (some 16, true))⟩,
    ⟨(some 18), .load 3 (.tmp 17), (some (some 16, true))⟩,
    ⟨(some 19), .call ⟨.value (.func 57), #[(.tmp 18), (.const (.int .i64 0)), (.const (.int .i64 100))], #[3, 3, 3]⟩, (some (some 16, true))⟩,
    ⟨(some 20), .pick (.tmp 16) (.tmp 19) (.const (.bool false)), none⟩,
    ⟨(some 21), .move (.tmp 20), none⟩,
    ⟨(some 22), .fieldAddr 56 (.tmp 1) 4, (some (some 21, true))⟩,
    ⟨(some 23), .load 3 (.tmp 22), (some (some 21, true))⟩,
    ⟨(some 24), .call ⟨.value (.func 57), #[(.tmp 23), (.const (.int .i64 0)), (.const (.int .i64 20))], #[3, 3, 3]⟩, (some (some 21, true))⟩,
    ⟨(some 25), .pick (.tmp 21) (.tmp 24) (.const (.bool false)), none⟩,
    ⟨(some 2), .assign (.tmp 25), none⟩] [2])
  .ret))
theorem impl_isPrinting_k : fnOk Try.prog 77 = some (impl_isPrinting_c.strip, 26, [.tmp 2]) := by kernel_rfl
/-- loop.example/g01062/spec.l1Most: number 78, params [0, 1] -/
def spec_l1Most_c : ACode := (.seq (.reg [⟨(some 4), .assign (.const (.int .i64 0)), none⟩] [0, 1])
  (.seq (.seq (.reg [⟨(some 5), .move (.tmp 0), none⟩,
    ⟨(some 6), .move (.tmp 1), none⟩,
    ⟨(some 7), .binOp .gtr 3 (.tmp 5) (.tmp 6) 3, none⟩] [0, 1, 7])
  (.cond (.tmp 7) (.seq (.reg [⟨(some 8), .move (.tmp 0), none⟩,
    ⟨(some 4), .assign (.tmp 8), none⟩] [4])
  .ret)
  .skip))
  (.seq (.reg [⟨(some 9), .move (.tmp 1), none⟩,
    ⟨(some 4), .assign (.tmp 9), none⟩] [4])
  .ret)))
theorem spec_l1Most_k : fnOk Try.prog 78 = some (spec_l1Most_c.strip, 10, [.tmp 4]) := by kernel_rfl
/-- head: [0, 1, 7, 8] -/
def slices_IndexFunc___impl_Printing_impl_Printing__l0 : ACode := (.seq (.reg [⟨(some 9), .binOp .lss 3 (.tmp 8) (.tmp 7) 3, none⟩] [0, 1, 7, 8, 9])
  (.seq (.cond (.tmp 9) .skip
  (.exit 0))
  (.seq (.block 1 (.seq (.reg [⟨(some 10), .move (.tmp 8), none⟩,
    ⟨(some 5), .assign (.tmp 10), none⟩] [0, 1, 5, 7, 8])
  (.seq (.reg [⟨(some 11), .move (.tmp 1), none⟩,
    ⟨(some 12), .move (.tmp 0), none⟩,
    ⟨(some 13), .move (.tmp 5), none⟩,
    ⟨(some 14), .indexAddr 25 (.tmp 12) (.tmp 13), none⟩,
    ⟨(some 15), .load 56 (.tmp 14), none⟩,
    ⟨(some 16), .call ⟨.value (.tmp 11), #[(.tmp 15)], #[56]⟩, none⟩] [0, 1, 5, 7, 8, 16])
  (.cond (.tmp 16) (.seq (.reg [⟨(some 17), .move (.tmp 5), none⟩,
    ⟨(some 4), .assign (.tmp 17), none⟩] [4])
  .ret)
  .skip))))
  (.reg [⟨(some 18), .binOp .add 3 (.tmp 8) (.const (.int .i64 1)) 3, none⟩,
    ⟨(some 8), .move (.tmp 18), none⟩] [0, 1, 7, 8]))))
/-- slices.IndexFunc[[]loop.example/g01062/impl.Printing,loop.example/g01062/impl.Printing]: number 79, params [0, 1] -/
def slices_IndexFunc___impl_Printing_impl_Printing__c : ACode := (.seq (.reg [⟨(some 4), .assign (.const (.int .i64 0)), none⟩] [0, 1])
  (.seq (.seq (.reg [⟨(some 6), .move (.tmp 0), none⟩,
    ⟨(some 7), .call ⟨.builtin .len, #[(.tmp 6)], #[25]⟩, none⟩,
    ⟨(some 8), .move (.const (.int .i64 0)), none⟩] [0, 1, 7, 8])
  (.block 0 (.loop slices_IndexFunc___impl_Printing_impl_Printing__l0)))
  (.seq (.reg [⟨(some 4), .assign (.const (.int .i64 (-1))), none⟩] [4])
  .ret)))
theorem slices_IndexFunc___impl_Printing_impl_Printing__k : fnOk Try.prog 79 = some (slices_IndexFunc___impl_Printing_impl_Printing__c.strip, 19, [.tmp 4]) := by kernel_rfl
/-- loop.example/g01062/impl.printingAt$1: number 80, params [0] -/
def impl_printingAt_1_c : ACode := (.seq (.reg [⟨(some 2), .box 56 (.tmp 0), none⟩,
    ⟨(some 3), .assign (.const (.bool false)), none⟩] [1, 2])
  (.seq (.reg [⟨(some 4), .fieldAddr 56 (.tmp 2) 0, none⟩,
    ⟨(some 5), .load 3 (.tmp 4), none⟩,
    ⟨(some 6), .load 3 (.tmp 1), none⟩,
    ⟨(some 7), .binOp .eql 3 (.tmp 5) (.tmp 6) 3, none⟩,
    ⟨(some 3), .assign (.tmp 7), none⟩] [3])
  .ret))
theorem impl_printingAt_1_k : fnOk Try.prog 80 = some (impl_printingAt_1_c.strip, 8, [.tmp 3]) := by kernel_rfl
/-- head: [0, 1] -/
def impl_gcd_l0 : ACode := (.seq (.seq (.reg [⟨(some 5), .move (.tmp 1), none⟩,
    ⟨(some 6), .binOp .neq 3 (.tmp 5) (.const (.int .i64 0)) 3, none⟩] [0, 1, 6])
  (.cond (.tmp 6) .skip
  (.exit 0)))
  (.block 1 (.regQ [⟨(some 7), .move (.tmp 1), none⟩,
    ⟨(some 8), .move (.tmp 0), none⟩,
    ⟨(some 9), .move (.tmp 1), none⟩,
    ⟨(some 10), .binOp .rem 3 (.tmp 8) (.tmp 9) 3, none⟩,
    ⟨(some 0), .assign (.tmp 7), none⟩,
    ⟨(some 1), .assign (.tmp 10), none⟩] [0, 1])))
/-- loop.example/g01062/impl.gcd: number 81, params [0, 1] -/
def impl_gcd_c : ACode := (.seq (.reg [⟨(some 4), .assign (.const (.int .i64 0)), none⟩] [0, 1])
  (.seq (.block 0 (.loop impl_gcd_l0))
  (.seq (.reg [⟨(some 11), .move (.tmp 0), none⟩,
    ⟨(some 4), .assign (.tmp 11), none⟩] [4])
  .ret)))
theorem impl_gcd_k : fnOk Try.prog 81 = some (impl_gcd_c.strip, 12, [.tmp 4]) := by kernel_rfl
/-- loop.example/g01062/spec.l1Least: number 86, params [0, 1] -/
def spec_l1Least_c : ACode := (.seq (.reg [⟨(some 4), .assign (.const (.int .i64 0)), none⟩] [0, 1])
  (.seq (.seq (.reg [⟨(some 5), .move (.tmp 0), none⟩,
    ⟨(some 6), .move (.tmp 1), none⟩,
    ⟨(some 7), .binOp .lss 3 (.tmp 5) (.tmp 6) 3, none⟩] [0, 1, 7])
  (.cond (.tmp 7) (.seq (.reg [⟨(some 8), .move (.tmp 0), none⟩,
    ⟨(some 4), .assign (.tmp 8), none⟩] [4])
  .ret)
  .skip))
  (.seq (.reg [⟨(some 9), .move (.tmp 1), none⟩,
    ⟨(some 4), .assign (.tmp 9), none⟩] [4])
  .ret)))
theorem spec_l1Least_k : fnOk Try.prog 86 = some (spec_l1Least_c.strip, 10, [.tmp 4]) := by kernel_rfl
end Go.Proofs.Yticknbohoolhgaa
