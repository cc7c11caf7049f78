/- Printed by a program of ours: the functions' abstract code and facts on their types. -/
import Derived.Test.YtegmlgikdniohaaDoorPrC
set_option maxRecDepth 8000
namespace Go.Proofs.YtegmlgikdniohaaDoor
open Go Go.RowKit
@[simp] theorem dk_51 : dK Tryd.prog 51 = some (.int .u64) := by kernel_rfl
@[simp] theorem ty_51 : tyK Tryd.prog 51 = some .cell := by kernel_rfl
@[simp] theorem zero_51 : zeroK Tryd.prog 51 = some [.int .u64 0] := by kernel_rfl
@[simp] theorem ty_53 : tyK Tryd.prog 53 = some (.obj 3) := by kernel_rfl
@[simp] theorem fld_53_0 : fldK Tryd.prog 53 0 = some 0 := by kernel_rfl
@[simp] theorem fld_53_1 : fldK Tryd.prog 53 1 = some 1 := by kernel_rfl
@[simp] theorem fld_53_2 : fldK Tryd.prog 53 2 = some 2 := by kernel_rfl
@[simp] theorem pl_53 : plK Tryd.prog 53 = some (some [(0, 1), (1, 1), (2, 1)]) := by kernel_rfl
@[simp] theorem zero_53 : zeroK Tryd.prog 53 = some [.nils, .int .i64 0, .int .u64 0] := by kernel_rfl
/-- loop.example/g01062/spec.DrawNextPrinting: number 5, params [0] -/
def spec_DrawNextPrinting_c : ACode := (.seq (.reg [⟨(some 2), .assign (.const (.slice none 0 0)), none⟩,
    ⟨(some 3), .assign (.const (.int .i64 0)), none⟩,
    ⟨(some 4), .assign (.const (.int .i64 0)), none⟩,
    ⟨(some 5), .assign (.const (.int .i64 0)), none⟩,
    ⟨(some 6), .assign (.const (.int .i64 0)), none⟩] [0])
  (.seq (.reg [⟨(some 12), .move (.tmp 0), none⟩,
    ⟨(some 13), .build 53 #[(0, (.tmp 12))], none⟩,
    ⟨(some 14), .box 53 (.tmp 13), none⟩,
    ⟨(some 7), .assign (.tmp 14), none⟩] [7])
  (.seq (.reg [⟨(some 15), .move (.tmp 7), none⟩,
    ⟨(some 16), .call ⟨.value (.func 25), #[(.tmp 15)], #[50]⟩, none⟩,
    ⟨(some 8), .assign (.tmp 16), none⟩] [7, 8])
  (.seq (.reg [⟨(some 17), .move (.tmp 7), none⟩,
    ⟨(some 18), .move (.tmp 8), none⟩,
    ⟨(some 19), .call ⟨.value (.func 26), #[(.tmp 17), (.tmp 18)], #[50, 24]⟩, none⟩,
    ⟨(some 9), .assign (.tmp 19), none⟩] [7, 8, 9])
  (.seq (.seq (.reg [⟨(some 20), .move (.tmp 8), none⟩,
    ⟨(some 21), .call ⟨.builtin .len, #[(.tmp 20)], #[24]⟩, none⟩,
    ⟨(some 10), .assign (.tmp 21), none⟩] [7, 8, 9, 10])
  (.seq (.reg [⟨(some 22), .move (.tmp 10), none⟩,
    ⟨(some 23), .binOp .gtr 3 (.tmp 22) (.const (.int .i64 0)) 3, none⟩,
    ⟨(some 24), .move (.tmp 23), none⟩,
    ⟨(some 25), .move (.tmp 7), (some (some 24, true))⟩,
    ⟨(some 26), .call ⟨.value (.func 27), #[(.tmp 25), (.const (.int .i64 3))], #[50, 3]⟩, (some (some 24, true))⟩,
    ⟨(some 27), .unOp .not 4 (.tmp 26), (some (some 24, true))⟩,
    ⟨(some 28), .pick (.tmp 24) (.tmp 27) (.const (.bool false)), none⟩] [7, 8, 9, 10, 28])
  (.cond (.tmp 28) (.regF [⟨(some 29), .move (.tmp 8), none⟩,
    ⟨(some 30), .move (.tmp 10), none⟩,
    ⟨(some 31), .binOp .sub 3 (.tmp 30) (.const (.int .i64 1)) 3, none⟩,
    ⟨(some 32), .indexAddr 24 (.tmp 29) (.tmp 31), none⟩,
    ⟨(some 33), .fieldAddr 34 (.tmp 32) 1, none⟩]
    [35, 34, 37] [.load 3 (.tmp 33)] [] []
    [⟨(some 35), .move (.tmp 7), none⟩,
    ⟨(some 36), .call ⟨.value (.func 28), #[(.tmp 35), (.const (.int .i64 3))], #[50, 3]⟩, none⟩,
    ⟨(some 34), .load 3 (.tmp 33), none⟩,
    ⟨(some 37), .binOp .add 3 (.tmp 34) (.tmp 36) 3, none⟩,
    ⟨(some 9), .assign (.tmp 37), none⟩] [7, 8, 9])
  .skip)))
  (.seq (.reg [⟨(some 38), .move (.tmp 7), none⟩,
    ⟨(some 39), .call ⟨.value (.func 29), #[(.tmp 38), (.const (.int .i64 1)), (.const (.int .i64 0))], #[50, 3, 3]⟩, none⟩,
    ⟨(some 11), .alloc 34, none⟩,
    ⟨none, .store 34 (.tmp 11) (.tmp 39), none⟩] [8, 9, 11])
  (.seq (.regQ [⟨(some 40), .move (.tmp 8), none⟩,
    ⟨(some 41), .move (.tmp 9), none⟩,
    ⟨(some 42), .fieldAddr 34 (.tmp 11) 2, none⟩,
    ⟨(some 43), .load 3 (.tmp 42), none⟩,
    ⟨(some 44), .fieldAddr 34 (.tmp 11) 3, none⟩,
    ⟨(some 45), .load 3 (.tmp 44), none⟩,
    ⟨(some 46), .fieldAddr 34 (.tmp 11) 4, none⟩,
    ⟨(some 47), .load 3 (.tmp 46), none⟩,
    ⟨(some 2), .assign (.tmp 40), none⟩,
    ⟨(some 3), .assign (.tmp 41), none⟩,
    ⟨(some 4), .assign (.tmp 43), none⟩,
    ⟨(some 5), .assign (.tmp 45), none⟩,
    ⟨(some 6), .assign (.tmp 47), none⟩] [2, 3, 4, 5, 6])
  .ret)))))))
theorem spec_DrawNextPrinting_k : fnOk Tryd.prog (fun i => i == 6) 5 = some (spec_DrawNextPrinting_c.strip, 48, [.tmp 2, .tmp 3, .tmp 4, .tmp 5, .tmp 6]) := by kernel_rfl
/-- loop.example/g01062/spec.DrawUniqueTones: number 12, params [0] -/
def spec_DrawUniqueTones_c : ACode := (.seq (.reg [⟨(some 2), .assign (.const (.slice none 0 0)), none⟩,
    ⟨(some 3), .assign (.const (.int .i64 0)), none⟩] [0])
  (.seq (.reg [⟨(some 4), .move (.tmp 0), none⟩,
    ⟨(some 5), .call ⟨.value (.func 34), #[(.tmp 4)], #[22]⟩, none⟩,
    ⟨(some 6), .extract (.tmp 5) 0, none⟩,
    ⟨(some 7), .extract (.tmp 5) 1, none⟩,
    ⟨(some 2), .assign (.tmp 6), none⟩,
    ⟨(some 3), .assign (.tmp 7), none⟩] [2, 3])
  .ret))
theorem spec_DrawUniqueTones_k : fnOk Tryd.prog (fun _ => false) 12 = some (spec_DrawUniqueTones_c.strip, 8, [.tmp 2, .tmp 3]) := by kernel_rfl
/-- loop.example/g01062/spec.DrawStampsUntil: number 17, params [0] -/
def spec_DrawStampsUntil_c : ACode := (.seq (.reg [⟨(some 2), .assign (.const (.slice none 0 0)), none⟩,
    ⟨(some 3), .assign (.const (.int .i64 0)), none⟩,
    ⟨(some 4), .assign (.const (.int .i64 0)), none⟩] [0])
  (.seq (.reg [⟨(some 9), .move (.tmp 0), none⟩,
    ⟨(some 10), .build 53 #[(0, (.tmp 9))], none⟩,
    ⟨(some 11), .box 53 (.tmp 10), none⟩,
    ⟨(some 5), .assign (.tmp 11), none⟩] [5])
  (.seq (.reg [⟨(some 12), .move (.tmp 5), none⟩,
    ⟨(some 13), .call ⟨.value (.func 25), #[(.tmp 12)], #[50]⟩, none⟩,
    ⟨(some 6), .assign (.tmp 13), none⟩] [5, 6])
  (.seq (.reg [⟨(some 14), .move (.tmp 5), none⟩,
    ⟨(some 15), .buildSlice 37 5 #[(0, (.const (.int .i64 1))), (1, (.const (.int .i64 100))), (2, (.const (.int .i64 400))), (3, (.const (.int .i64 0))), (4, (.const (.int .i64 401)))], none⟩,
    ⟨(some 16), .move (.tmp 5), none⟩,
    ⟨(some 17), .call ⟨.value (.func 28), #[(.tmp 16), (.const (.int .i64 24))], #[50, 3]⟩, none⟩,
    ⟨(some 18), .binOp .quo 3 (.tmp 17) (.const (.int .i64 11)) 3, none⟩,
    ⟨(some 19), .binOp .add 3 (.const (.int .i64 3)) (.tmp 18) 3, none⟩,
    ⟨(some 20), .slice 37 (.tmp 15) none (some (.tmp 19)) none, none⟩,
    ⟨(some 21), .call ⟨.value (.func 41), #[(.tmp 14), (.tmp 20)], #[50, 37]⟩, none⟩,
    ⟨(some 7), .assign (.tmp 21), none⟩] [5, 6, 7])
  (.seq (.seq (.reg [⟨(some 22), .move (.tmp 6), none⟩,
    ⟨(some 23), .call ⟨.builtin .len, #[(.tmp 22)], #[24]⟩, none⟩,
    ⟨(some 24), .binOp .gtr 3 (.tmp 23) (.const (.int .i64 0)) 3, none⟩,
    ⟨(some 25), .move (.tmp 24), none⟩,
    ⟨(some 26), .move (.tmp 7), (some (some 25, true))⟩,
    ⟨(some 27), .binOp .gtr 3 (.tmp 26) (.const (.int .i64 0)) 3, (some (some 25, true))⟩,
    ⟨(some 28), .pick (.tmp 25) (.tmp 27) (.const (.bool false)), none⟩,
    ⟨(some 29), .move (.tmp 28), none⟩,
    ⟨(some 30), .move (.tmp 5), (some (some 29, true))⟩,
    ⟨(some 31), .call ⟨.value (.func 27), #[(.tmp 30), (.const (.int .i64 3))], #[50, 3]⟩, (some (some 29, true))⟩,
    ⟨(some 32), .unOp .not 4 (.tmp 31), (some (some 29, true))⟩,
    ⟨(some 33), .pick (.tmp 29) (.tmp 32) (.const (.bool false)), none⟩] [5, 6, 7, 33])
  (.cond (.tmp 33) (.seq (.reg [⟨(some 34), .move (.tmp 7), none⟩,
    ⟨(some 35), .move (.tmp 6), none⟩,
    ⟨(some 36), .move (.tmp 6), none⟩,
    ⟨(some 37), .move (.tmp 5), none⟩,
    ⟨(some 38), .move (.tmp 6), none⟩,
    ⟨(some 39), .call ⟨.builtin .len, #[(.tmp 38)], #[24]⟩, none⟩,
    ⟨(some 40), .call ⟨.value (.func 28), #[(.tmp 37), (.tmp 39)], #[50, 3]⟩, none⟩,
    ⟨(some 41), .indexAddr 24 (.tmp 36) (.tmp 40), none⟩,
    ⟨(some 42), .fieldAddr 34 (.tmp 41) 1, none⟩,
    ⟨(some 43), .load 3 (.tmp 42), none⟩,
    ⟨(some 44), .call ⟨.value (.func 42), #[(.tmp 35), (.tmp 43)], #[24, 3]⟩, none⟩,
    ⟨(some 45), .binOp .mul 3 (.tmp 34) (.tmp 44) 3, none⟩,
    ⟨(some 8), .assign (.tmp 45), none⟩] [5, 6, 7, 8])
  (.seq (.reg [⟨(some 46), .move (.tmp 6), none⟩,
    ⟨(some 47), .move (.tmp 7), none⟩,
    ⟨(some 48), .move (.tmp 8), none⟩,
    ⟨(some 49), .move (.tmp 5), none⟩,
    ⟨(some 50), .call ⟨.value (.func 28), #[(.tmp 49), (.const (.int .i64 2))], #[50, 3]⟩, none⟩,
    ⟨(some 51), .binOp .add 3 (.tmp 48) (.tmp 50) 3, none⟩,
    ⟨(some 52), .call ⟨.value (.func 44), #[(.const (.int .i64 1)), (.tmp 51)], #[3, 3]⟩, none⟩,
    ⟨(some 53), .call ⟨.value (.func 43), #[(.const (.int .i64 50000000)), (.tmp 52)], #[3, 3]⟩, none⟩,
    ⟨(some 2), .assign (.tmp 46), none⟩,
    ⟨(some 3), .assign (.tmp 47), none⟩,
    ⟨(some 4), .assign (.tmp 53), none⟩] [2, 3, 4])
  .ret))
  .skip))
  (.seq (.reg [⟨(some 54), .move (.tmp 6), none⟩,
    ⟨(some 55), .move (.tmp 7), none⟩,
    ⟨(some 56), .move (.tmp 5), none⟩,
    ⟨(some 57), .buildSlice 37 5 #[(0, (.const (.int .i64 1))), (1, (.const (.int .i64 20000))), (2, (.const (.int .i64 50000000))), (3, (.const (.int .i64 0))), (4, (.const (.int .i64 50000001)))], none⟩,
    ⟨(some 58), .move (.tmp 5), none⟩,
    ⟨(some 59), .call ⟨.value (.func 28), #[(.tmp 58), (.const (.int .i64 24))], #[50, 3]⟩, none⟩,
    ⟨(some 60), .binOp .quo 3 (.tmp 59) (.const (.int .i64 11)) 3, none⟩,
    ⟨(some 61), .binOp .add 3 (.const (.int .i64 3)) (.tmp 60) 3, none⟩,
    ⟨(some 62), .slice 37 (.tmp 57) none (some (.tmp 61)) none, none⟩,
    ⟨(some 63), .call ⟨.value (.func 41), #[(.tmp 56), (.tmp 62)], #[50, 37]⟩, none⟩,
    ⟨(some 2), .assign (.tmp 54), none⟩,
    ⟨(some 3), .assign (.tmp 55), none⟩,
    ⟨(some 4), .assign (.tmp 63), none⟩] [2, 3, 4])
  .ret))))))
theorem spec_DrawStampsUntil_k : fnOk Tryd.prog (fun _ => false) 17 = some (spec_DrawStampsUntil_c.strip, 64, [.tmp 2, .tmp 3, .tmp 4]) := by kernel_rfl
/-- loop.example/g01062/spec.DrawPrintingText: number 22, params [0] -/
def spec_DrawPrintingText_c : ACode := (.seq (.reg [⟨(some 2), .alloc 34, none⟩] [0, 2])
  (.seq (.reg [⟨(some 4), .move (.tmp 0), none⟩,
    ⟨(some 5), .build 53 #[(0, (.tmp 4))], none⟩,
    ⟨(some 6), .box 53 (.tmp 5), none⟩,
    ⟨(some 3), .assign (.tmp 6), none⟩] [2, 3])
  (.seq (.reg [⟨(some 7), .move (.tmp 3), none⟩,
    ⟨(some 8), .move (.tmp 3), none⟩,
    ⟨(some 9), .buildSlice 37 3 #[(0, (.const (.int .i64 1))), (1, (.const (.int .i64 42))), (2, (.const (.int .i64 99)))], none⟩,
    ⟨(some 10), .call ⟨.value (.func 41), #[(.tmp 8), (.tmp 9)], #[50, 37]⟩, none⟩,
    ⟨(some 11), .move (.tmp 3), none⟩,
    ⟨(some 12), .buildSlice 37 3 #[(0, (.const (.int .i64 0))), (1, (.const (.int .i64 42))), (2, (.const (.int .i64 4000)))], none⟩,
    ⟨(some 13), .call ⟨.value (.func 41), #[(.tmp 11), (.tmp 12)], #[50, 37]⟩, none⟩,
    ⟨(some 14), .call ⟨.value (.func 29), #[(.tmp 7), (.tmp 10), (.tmp 13)], #[50, 3, 3]⟩, none⟩,
    ⟨none, .store 34 (.tmp 2) (.tmp 14), none⟩] [2])
  .ret)))
theorem spec_DrawPrintingText_k : fnOk Tryd.prog (fun _ => false) 22 = some (spec_DrawPrintingText_c.strip, 15, [.cell 2 34]) := by kernel_rfl
/-- head: [0, 3, 4, 5, 6] -/
def __spec_l1Cur__printings14_l0 : ACode := (.seq (.seq (.reg [⟨(some 14), .move (.tmp 6), none⟩,
    ⟨(some 15), .binOp .gtr 3 (.tmp 14) (.const (.int .i64 0)) 3, none⟩] [0, 3, 4, 5, 6, 15])
  (.cond (.tmp 15) .skip
  (.exit 0)))
  (.seq (.block 1 (.seq (.reg [⟨(some 18), .move (.tmp 4), none⟩,
    ⟨(some 19), .binOp .add 3 (.tmp 18) (.const (.int .i64 1)) 3, none⟩,
    ⟨(some 20), .move (.tmp 0), none⟩,
    ⟨(some 21), .call ⟨.value (.func 28), #[(.tmp 20), (.const (.int .i64 2))], #[50, 3]⟩, none⟩,
    ⟨(some 22), .binOp .add 3 (.tmp 19) (.tmp 21) 3, none⟩,
    ⟨(some 23), .move (.tmp 0), none⟩,
    ⟨(some 24), .call ⟨.value (.func 28), #[(.tmp 23), (.const (.int .i64 150))], #[50, 3]⟩, none⟩,
    ⟨(some 25), .binOp .quo 3 (.tmp 24) (.const (.int .i64 149)) 3, none⟩,
    ⟨(some 26), .binOp .sub 3 (.tmp 22) (.tmp 25) 3, none⟩,
    ⟨(some 4), .assign (.tmp 26), none⟩] [0, 3, 4, 5, 6])
  (.seq (.reg [⟨(some 27), .move (.tmp 3), none⟩,
    ⟨(some 28), .move (.tmp 0), none⟩,
    ⟨(some 29), .move (.tmp 4), none⟩,
    ⟨(some 30), .move (.tmp 5), none⟩,
    ⟨(some 31), .call ⟨.value (.func 29), #[(.tmp 28), (.tmp 29), (.tmp 30)], #[50, 3, 3]⟩, none⟩,
    ⟨(some 32), .buildSlice 24 1 #[(0, (.tmp 31))], none⟩,
    ⟨(some 33), .call ⟨.builtin .append, #[(.tmp 27), (.tmp 32)], #[24, 24]⟩, none⟩,
    ⟨(some 3), .assign (.tmp 33), none⟩] [0, 3, 4, 5, 6])
  (.reg [⟨(some 34), .move (.tmp 5), none⟩,
    ⟨(some 35), .binOp .add 3 (.tmp 34) (.const (.int .i64 1)) 3, none⟩,
    ⟨(some 36), .move (.tmp 0), none⟩,
    ⟨(some 37), .buildSlice 37 5 #[(0, (.const (.int .i64 0))), (1, (.const (.int .i64 9))), (2, (.const (.int .i64 9))), (3, (.const (.int .i64 29))), (4, (.const (.int .i64 99)))], none⟩,
    ⟨(some 38), .call ⟨.value (.func 41), #[(.tmp 36), (.tmp 37)], #[50, 37]⟩, none⟩,
    ⟨(some 39), .binOp .add 3 (.tmp 35) (.tmp 38) 3, none⟩,
    ⟨(some 40), .move (.tmp 0), none⟩,
    ⟨(some 41), .call ⟨.value (.func 28), #[(.tmp 40), (.const (.int .i64 150))], #[50, 3]⟩, none⟩,
    ⟨(some 42), .binOp .quo 3 (.tmp 41) (.const (.int .i64 149)) 3, none⟩,
    ⟨(some 43), .binOp .sub 3 (.tmp 39) (.tmp 42) 3, none⟩,
    ⟨(some 5), .assign (.tmp 43), none⟩] [0, 3, 4, 5, 6]))))
  (.reg [⟨(some 16), .move (.tmp 6), none⟩,
    ⟨(some 17), .binOp .sub 3 (.tmp 16) (.const (.int .i64 1)) 3, none⟩,
    ⟨(some 6), .assign (.tmp 17), none⟩] [0, 3, 4, 5, 6])))
/-- head: [0, 3, 7] -/
def __spec_l1Cur__printings14_l1 : ACode := (.seq (.seq (.reg [⟨(some 47), .move (.tmp 7), none⟩,
    ⟨(some 48), .move (.tmp 0), none⟩,
    ⟨(some 49), .call ⟨.value (.func 28), #[(.tmp 48), (.const (.int .i64 2))], #[50, 3]⟩, none⟩,
    ⟨(some 50), .binOp .add 3 (.const (.int .i64 12)) (.tmp 49) 3, none⟩,
    ⟨(some 51), .binOp .lss 3 (.tmp 47) (.tmp 50) 3, none⟩] [0, 3, 7, 51])
  (.cond (.tmp 51) .skip
  (.exit 2)))
  (.seq (.block 3 (.reg [⟨(some 54), .move (.tmp 3), none⟩,
    ⟨(some 55), .move (.tmp 7), none⟩,
    ⟨(some 56), .binOp .add 3 (.tmp 55) (.const (.int .i64 1)) 3, none⟩,
    ⟨(some 57), .move (.tmp 7), none⟩,
    ⟨(some 58), .binOp .mul 3 (.const (.int .i64 10)) (.tmp 57) 3, none⟩,
    ⟨(some 59), .move (.tmp 7), none⟩,
    ⟨(some 60), .binOp .rem 3 (.tmp 59) (.const (.int .i64 3)) 3, none⟩,
    ⟨(some 61), .binOp .add 3 (.const (.int .i64 5)) (.tmp 60) 3, none⟩,
    ⟨(some 62), .move (.tmp 7), none⟩,
    ⟨(some 63), .binOp .mul 3 (.const (.int .i64 4)) (.tmp 62) 3, none⟩,
    ⟨(some 64), .build 34 #[(0, (.tmp 56)), (1, (.tmp 58)), (2, (.tmp 61)), (3, (.tmp 63)), (4, (.const (.int .i64 2)))], none⟩,
    ⟨(some 65), .buildSlice 24 1 #[(0, (.tmp 64))], none⟩,
    ⟨(some 66), .call ⟨.builtin .append, #[(.tmp 54), (.tmp 65)], #[24, 24]⟩, none⟩,
    ⟨(some 3), .assign (.tmp 66), none⟩] [0, 3, 7]))
  (.reg [⟨(some 52), .move (.tmp 7), none⟩,
    ⟨(some 53), .binOp .add 3 (.tmp 52) (.const (.int .i64 1)) 3, none⟩,
    ⟨(some 7), .assign (.tmp 53), none⟩] [0, 3, 7])))
/-- (*loop.example/g01062/spec.l1Cur).printings14: number 25, params [0] -/
def __spec_l1Cur__printings14_c : ACode := (.seq (.reg [⟨(some 2), .assign (.const (.slice none 0 0)), none⟩] [0])
  (.seq (.reg [⟨(some 8), .buildSlice 24 0 #[], none⟩,
    ⟨(some 3), .assign (.tmp 8), none⟩] [0, 3])
  (.seq (.reg [⟨(some 9), .move (.tmp 0), none⟩,
    ⟨(some 10), .buildSlice 37 3 #[(0, (.const (.int .i64 0))), (1, (.const (.int .i64 100))), (2, (.const (.int .i64 3900)))], none⟩,
    ⟨(some 11), .call ⟨.value (.func 41), #[(.tmp 9), (.tmp 10)], #[50, 37]⟩, none⟩,
    ⟨(some 4), .assign (.const (.int .i64 0)), none⟩,
    ⟨(some 5), .assign (.tmp 11), none⟩] [0, 3, 4, 5])
  (.seq (.seq (.reg [⟨(some 12), .move (.tmp 0), none⟩,
    ⟨(some 13), .call ⟨.value (.func 28), #[(.tmp 12), (.const (.int .i64 8))], #[50, 3]⟩, none⟩,
    ⟨(some 6), .assign (.tmp 13), none⟩] [0, 3, 4, 5, 6])
  (.block 0 (.loop __spec_l1Cur__printings14_l0)))
  (.seq (.seq (.reg [⟨(some 44), .move (.tmp 0), none⟩,
    ⟨(some 45), .call ⟨.value (.func 27), #[(.tmp 44), (.const (.int .i64 24))], #[50, 3]⟩, none⟩] [0, 3, 45])
  (.cond (.tmp 45) (.seq (.reg [⟨(some 46), .buildSlice 24 0 #[], none⟩,
    ⟨(some 3), .assign (.tmp 46), none⟩] [0, 3])
  (.seq (.reg [⟨(some 7), .assign (.const (.int .i64 0)), none⟩] [0, 3, 7])
  (.block 2 (.loop __spec_l1Cur__printings14_l1))))
  .skip))
  (.seq (.reg [⟨(some 67), .move (.tmp 3), none⟩,
    ⟨(some 2), .assign (.tmp 67), none⟩] [2])
  .ret))))))
theorem __spec_l1Cur__printings14_k : fnOk Tryd.prog (fun _ => false) 25 = some (__spec_l1Cur__printings14_c.strip, 68, [.tmp 2]) := by kernel_rfl
/-- (*loop.example/g01062/spec.l1Cur).use14: number 26, params [0, 1] -/
def __spec_l1Cur__use14_c : ACode := (.seq (.reg [⟨(some 4), .assign (.const (.int .i64 0)), none⟩] [0, 1])
  (.seq (.seq (.reg [⟨(some 5), .move (.tmp 1), none⟩,
    ⟨(some 6), .call ⟨.builtin .len, #[(.tmp 5)], #[24]⟩, none⟩,
    ⟨(some 7), .binOp .eql 3 (.tmp 6) (.const (.int .i64 0)) 3, none⟩,
    ⟨(some 8), .move (.tmp 7), none⟩,
    ⟨(some 9), .move (.tmp 0), (some (some 8, false))⟩,
    ⟨(some 10), .call ⟨.value (.func 27), #[(.tmp 9), (.const (.int .i64 5))], #[50, 3]⟩, (some (some 8, false))⟩,
    ⟨(some 11), .pick (.tmp 8) (.const (.bool true)) (.tmp 10), none⟩] [0, 1, 11])
  (.cond (.tmp 11) (.seq (.reg [⟨(some 12), .move (.tmp 0), none⟩,
    ⟨(some 13), .buildSlice 37 5 #[(0, (.const (.int .i64 0))), (1, (.const (.int .i64 150))), (2, (.const (.int .i64 4000))), (3, (.const (.int .i64 (-1)))), (4, (.const (.int .i64 4001)))], none⟩,
    ⟨(some 14), .move (.tmp 0), none⟩,
    ⟨(some 15), .call ⟨.value (.func 28), #[(.tmp 14), (.const (.int .i64 24))], #[50, 3]⟩, none⟩,
    ⟨(some 16), .binOp .quo 3 (.tmp 15) (.const (.int .i64 12)) 3, none⟩,
    ⟨(some 17), .binOp .add 3 (.const (.int .i64 4)) (.tmp 16) 3, none⟩,
    ⟨(some 18), .slice 37 (.tmp 13) none (some (.tmp 17)) none, none⟩,
    ⟨(some 19), .call ⟨.value (.func 41), #[(.tmp 12), (.tmp 18)], #[50, 37]⟩, none⟩,
    ⟨(some 4), .assign (.tmp 19), none⟩] [4])
  .ret)
  .skip))
  (.seq (.regF [⟨(some 20), .move (.tmp 1), none⟩,
    ⟨(some 21), .move (.tmp 0), none⟩,
    ⟨(some 22), .move (.tmp 1), none⟩,
    ⟨(some 23), .call ⟨.builtin .len, #[(.tmp 22)], #[24]⟩, none⟩]
    [28, 29, 25, 26, 27, 31] [] [20] [27]
    [⟨(some 24), .call ⟨.value (.func 28), #[(.tmp 21), (.tmp 23)], #[50, 3]⟩, none⟩,
    ⟨(some 28), .move (.tmp 0), none⟩,
    ⟨(some 29), .buildSlice 37 5 #[(0, (.const (.int .i64 (-1)))), (1, (.const (.int .i64 0))), (2, (.const (.int .i64 0))), (3, (.const (.int .i64 1))), (4, (.const (.int .i64 50)))], none⟩,
    ⟨(some 30), .call ⟨.value (.func 41), #[(.tmp 28), (.tmp 29)], #[50, 37]⟩, none⟩,
    ⟨(some 25), .indexAddr 24 (.tmp 20) (.tmp 24), none⟩,
    ⟨(some 26), .fieldAddr 34 (.tmp 25) 1, none⟩,
    ⟨(some 27), .load 3 (.tmp 26), none⟩,
    ⟨(some 31), .binOp .add 3 (.tmp 27) (.tmp 30) 3, none⟩,
    ⟨(some 32), .call ⟨.value (.func 44), #[(.const (.int .i64 0)), (.tmp 31)], #[3, 3]⟩, none⟩,
    ⟨(some 33), .call ⟨.value (.func 43), #[(.const (.int .i64 4000)), (.tmp 32)], #[3, 3]⟩, none⟩,
    ⟨(some 4), .assign (.tmp 33), none⟩] [4])
  .ret)))
theorem __spec_l1Cur__use14_k : fnOk Tryd.prog (fun i => i == 3) 26 = some (__spec_l1Cur__use14_c.strip, 34, [.tmp 4]) := by kernel_rfl
/-- (*loop.example/g01062/spec.l1Cur).one: number 27, params [0, 1] -/
def __spec_l1Cur__one_c : ACode := (.seq (.reg [⟨(some 4), .assign (.const (.bool false)), none⟩] [0, 1])
  (.seq (.reg [⟨(some 5), .move (.tmp 0), none⟩,
    ⟨(some 6), .move (.tmp 1), none⟩,
    ⟨(some 7), .call ⟨.value (.func 28), #[(.tmp 5), (.tmp 6)], #[50, 3]⟩, none⟩,
    ⟨(some 8), .binOp .eql 3 (.tmp 7) (.const (.int .i64 0)) 3, none⟩,
    ⟨(some 4), .assign (.tmp 8), none⟩] [4])
  .ret))
theorem __spec_l1Cur__one_k : fnOk Tryd.prog (fun _ => false) 27 = some (__spec_l1Cur__one_c.strip, 9, [.tmp 4]) := by kernel_rfl
/-- (*loop.example/g01062/spec.l1Cur).pick: number 28, params [0, 1] -/
def __spec_l1Cur__pick_c : ACode := (.seq (.reg [⟨(some 4), .assign (.const (.int .i64 0)), none⟩] [0, 1])
  (.seq (.seq (.reg [⟨(some 6), .move (.tmp 1), none⟩,
    ⟨(some 7), .binOp .leq 3 (.tmp 6) (.const (.int .i64 1)) 3, none⟩] [0, 1, 7])
  (.cond (.tmp 7) (.seq (.reg [⟨(some 4), .assign (.const (.int .i64 0)), none⟩] [4])
  .ret)
  .skip))
  (.seq (.reg [⟨(some 8), .move (.tmp 0), none⟩,
    ⟨(some 9), .call ⟨.value (.func 51), #[(.tmp 8)], #[50]⟩, none⟩,
    ⟨(some 5), .assign (.tmp 9), none⟩] [0, 1, 5])
  (.seq (.seq (.reg [⟨(some 10), .move (.tmp 1), none⟩,
    ⟨(some 11), .binOp .gtr 3 (.tmp 10) (.const (.int .i64 200)) 3, none⟩] [0, 1, 5, 11])
  (.cond (.tmp 11) (.reg [⟨(some 12), .move (.tmp 5), none⟩,
    ⟨(some 13), .binOp .mul 3 (.tmp 12) (.const (.int .i64 256)) 3, none⟩,
    ⟨(some 14), .move (.tmp 0), none⟩,
    ⟨(some 15), .call ⟨.value (.func 51), #[(.tmp 14)], #[50]⟩, none⟩,
    ⟨(some 16), .binOp .add 3 (.tmp 13) (.tmp 15) 3, none⟩,
    ⟨(some 5), .assign (.tmp 16), none⟩] [1, 5])
  .skip))
  (.seq (.reg [⟨(some 17), .move (.tmp 5), none⟩,
    ⟨(some 18), .move (.tmp 1), none⟩,
    ⟨(some 19), .binOp .rem 3 (.tmp 17) (.tmp 18) 3, none⟩,
    ⟨(some 4), .assign (.tmp 19), none⟩] [4])
  .ret)))))
theorem __spec_l1Cur__pick_k : fnOk Tryd.prog (fun _ => false) 28 = some (__spec_l1Cur__pick_c.strip, 20, [.tmp 4]) := by kernel_rfl
/-- (*loop.example/g01062/spec.l1Cur).printing14: number 29, params [0, 1, 2] -/
def __spec_l1Cur__printing14_c : ACode := (.seq (.reg [⟨(some 6), .alloc 34, none⟩] [0, 1, 2, 6])
  (.seq (.reg [⟨(some 8), .move (.tmp 1), none⟩,
    ⟨(some 9), .move (.tmp 2), none⟩,
    ⟨(some 10), .move (.tmp 0), none⟩,
    ⟨(some 11), .buildSlice 37 5 #[(0, (.const (.int .i64 1))), (1, (.const (.int .i64 100))), (2, (.const (.int .i64 100))), (3, (.const (.int .i64 250))), (4, (.const (.int .i64 9999)))], none⟩,
    ⟨(some 12), .call ⟨.value (.func 41), #[(.tmp 10), (.tmp 11)], #[50, 37]⟩, none⟩,
    ⟨(some 13), .move (.tmp 0), none⟩,
    ⟨(some 14), .buildSlice 37 5 #[(0, (.const (.int .i64 0))), (1, (.const (.int .i64 40))), (2, (.const (.int .i64 45))), (3, (.const (.int .i64 50))), (4, (.const (.int .i64 100)))], none⟩,
    ⟨(some 15), .call ⟨.value (.func 41), #[(.tmp 13), (.tmp 14)], #[50, 37]⟩, none⟩,
    ⟨(some 16), .move (.tmp 0), none⟩,
    ⟨(some 17), .buildSlice 37 5 #[(0, (.const (.int .i64 0))), (1, (.const (.int .i64 2))), (2, (.const (.int .i64 5))), (3, (.const (.int .i64 5))), (4, (.const (.int .i64 20)))], none⟩,
    ⟨(some 18), .call ⟨.value (.func 41), #[(.tmp 16), (.tmp 17)], #[50, 37]⟩, none⟩,
    ⟨(some 19), .build 34 #[(0, (.tmp 8)), (1, (.tmp 9)), (2, (.tmp 12)), (3, (.tmp 15)), (4, (.tmp 18))], none⟩,
    ⟨(some 7), .alloc 34, none⟩,
    ⟨none, .store 34 (.tmp 7) (.tmp 19), none⟩] [0, 6, 7])
  (.seq (.seq (.reg [⟨(some 20), .move (.tmp 0), none⟩,
    ⟨(some 21), .call ⟨.value (.func 28), #[(.tmp 20), (.const (.int .i64 120))], #[50, 3]⟩, none⟩] [0, 6, 7, 21])
  (.block 0 (.seq (.reg [⟨(some 23), .binOp .eql 3 (.tmp 21) (.const (.int .i64 0)) 3, none⟩,
    ⟨(some 22), .assign (.tmp 23), none⟩] [0, 6, 7, 21, 22])
  (.cond (.tmp 22) (.reg [⟨(some 24), .move (.tmp 0), none⟩,
    ⟨(some 25), .buildSlice 37 3 #[(0, (.const (.int .i64 0))), (1, (.const (.int .i64 99))), (2, (.const (.int .i64 100)))], none⟩,
    ⟨(some 26), .call ⟨.value (.func 41), #[(.tmp 24), (.tmp 25)], #[50, 37]⟩, none⟩,
    ⟨(some 27), .fieldAddr 34 (.tmp 7) 0, none⟩,
    ⟨none, .store 3 (.tmp 27) (.tmp 26), none⟩] [6, 7])
  (.seq (.reg [⟨(some 29), .binOp .eql 3 (.tmp 21) (.const (.int .i64 1)) 3, none⟩,
    ⟨(some 28), .assign (.tmp 29), none⟩] [0, 6, 7, 21, 28])
  (.cond (.tmp 28) (.reg [⟨(some 30), .move (.tmp 0), none⟩,
    ⟨(some 31), .buildSlice 37 2 #[(0, (.const (.int .i64 (-1)))), (1, (.const (.int .i64 4001)))], none⟩,
    ⟨(some 32), .call ⟨.value (.func 41), #[(.tmp 30), (.tmp 31)], #[50, 37]⟩, none⟩,
    ⟨(some 33), .fieldAddr 34 (.tmp 7) 1, none⟩,
    ⟨none, .store 3 (.tmp 33) (.tmp 32), none⟩] [6, 7])
  (.seq (.reg [⟨(some 35), .binOp .eql 3 (.tmp 21) (.const (.int .i64 2)) 3, none⟩,
    ⟨(some 34), .assign (.tmp 35), none⟩] [0, 6, 7, 21, 34])
  (.cond (.tmp 34) (.reg [⟨(some 36), .move (.tmp 0), none⟩,
    ⟨(some 37), .buildSlice 37 2 #[(0, (.const (.int .i64 0))), (1, (.const (.int .i64 10000)))], none⟩,
    ⟨(some 38), .call ⟨.value (.func 41), #[(.tmp 36), (.tmp 37)], #[50, 37]⟩, none⟩,
    ⟨(some 39), .fieldAddr 34 (.tmp 7) 2, none⟩,
    ⟨none, .store 3 (.tmp 39) (.tmp 38), none⟩] [6, 7])
  (.seq (.reg [⟨(some 41), .binOp .eql 3 (.tmp 21) (.const (.int .i64 3)) 3, none⟩,
    ⟨(some 40), .assign (.tmp 41), none⟩] [0, 6, 7, 21, 40])
  (.cond (.tmp 40) (.reg [⟨(some 42), .move (.tmp 0), none⟩,
    ⟨(some 43), .buildSlice 37 2 #[(0, (.const (.int .i64 (-1)))), (1, (.const (.int .i64 101)))], none⟩,
    ⟨(some 44), .call ⟨.value (.func 41), #[(.tmp 42), (.tmp 43)], #[50, 37]⟩, none⟩,
    ⟨(some 45), .fieldAddr 34 (.tmp 7) 3, none⟩,
    ⟨none, .store 3 (.tmp 45) (.tmp 44), none⟩] [6, 7])
  (.seq (.reg [⟨(some 47), .binOp .eql 3 (.tmp 21) (.const (.int .i64 4)) 3, none⟩,
    ⟨(some 46), .assign (.tmp 47), none⟩] [0, 6, 7, 46])
  (.cond (.tmp 46) (.reg [⟨(some 48), .move (.tmp 0), none⟩,
    ⟨(some 49), .buildSlice 37 2 #[(0, (.const (.int .i64 (-1)))), (1, (.const (.int .i64 21)))], none⟩,
    ⟨(some 50), .call ⟨.value (.func 41), #[(.tmp 48), (.tmp 49)], #[50, 37]⟩, none⟩,
    ⟨(some 51), .fieldAddr 34 (.tmp 7) 4, none⟩,
    ⟨none, .store 3 (.tmp 51) (.tmp 50), none⟩] [6, 7])
  .skip))))))))))))
  (.seq (.reg [⟨(some 52), .load 34 (.tmp 7), none⟩,
    ⟨none, .store 34 (.tmp 6) (.tmp 52), none⟩] [6])
  .ret))))
theorem __spec_l1Cur__printing14_k : fnOk Tryd.prog (fun _ => false) 29 = some (__spec_l1Cur__printing14_c.strip, 53, [.cell 6 34]) := by kernel_rfl
/-- loop.example/g01062/spec.DrawShareOfSheets: number 34, params [0] -/
def spec_DrawShareOfSheets_c : ACode := (.seq (.reg [⟨(some 2), .assign (.const (.slice none 0 0)), none⟩,
    ⟨(some 3), .assign (.const (.int .i64 0)), none⟩] [0])
  (.seq (.reg [⟨(some 6), .move (.tmp 0), none⟩,
    ⟨(some 7), .build 53 #[(0, (.tmp 6))], none⟩,
    ⟨(some 8), .box 53 (.tmp 7), none⟩,
    ⟨(some 4), .assign (.tmp 8), none⟩] [4])
  (.seq (.reg [⟨(some 9), .move (.tmp 4), none⟩,
    ⟨(some 10), .call ⟨.value (.func 25), #[(.tmp 9)], #[50]⟩, none⟩,
    ⟨(some 5), .assign (.tmp 10), none⟩] [4, 5])
  (.seq (.reg [⟨(some 11), .move (.tmp 5), none⟩,
    ⟨(some 12), .move (.tmp 4), none⟩,
    ⟨(some 13), .move (.tmp 5), none⟩,
    ⟨(some 14), .call ⟨.value (.func 52), #[(.tmp 12), (.tmp 13)], #[50, 24]⟩, none⟩,
    ⟨(some 2), .assign (.tmp 11), none⟩,
    ⟨(some 3), .assign (.tmp 14), none⟩] [2, 3])
  .ret))))
theorem spec_DrawShareOfSheets_k : fnOk Tryd.prog (fun _ => false) 34 = some (spec_DrawShareOfSheets_c.strip, 15, [.tmp 2, .tmp 3]) := by kernel_rfl
/-- (*loop.example/g01062/spec.l1Cur).among: number 41, params [0, 1] -/
def __spec_l1Cur__among_c : ACode := (.seq (.reg [⟨(some 4), .assign (.const (.int .i64 0)), none⟩] [0, 1])
  (.seq (.reg [⟨(some 5), .move (.tmp 1), none⟩,
    ⟨(some 6), .move (.tmp 0), none⟩,
    ⟨(some 7), .move (.tmp 1), none⟩,
    ⟨(some 8), .call ⟨.builtin .len, #[(.tmp 7)], #[37]⟩, none⟩,
    ⟨(some 9), .call ⟨.value (.func 28), #[(.tmp 6), (.tmp 8)], #[50, 3]⟩, none⟩,
    ⟨(some 10), .indexAddr 37 (.tmp 5) (.tmp 9), none⟩,
    ⟨(some 11), .load 3 (.tmp 10), none⟩,
    ⟨(some 4), .assign (.tmp 11), none⟩] [4])
  .ret))
theorem __spec_l1Cur__among_k : fnOk Tryd.prog (fun _ => false) 41 = some (__spec_l1Cur__among_c.strip, 12, [.tmp 4]) := by kernel_rfl
/-- (*loop.example/g01062/spec.l1Cur).next: number 51, params [0] -/
def __spec_l1Cur__next_c : ACode := (.seq (.reg [⟨(some 2), .assign (.const (.int .i64 0)), none⟩] [0])
  (.seq (.reg [⟨(some 3), .assign (.const (.int .i64 0)), none⟩] [0, 3])
  (.seq (.seq (.regQ [⟨(some 4), .move (.tmp 0), none⟩,
    ⟨(some 5), .nilCheck (.tmp 4), none⟩,
    ⟨(some 6), .fieldAddr 53 (.tmp 5) 1, none⟩,
    ⟨(some 7), .load 3 (.tmp 6), none⟩,
    ⟨(some 8), .move (.tmp 0), none⟩,
    ⟨(some 9), .nilCheck (.tmp 8), none⟩,
    ⟨(some 10), .fieldAddr 53 (.tmp 9) 0, none⟩,
    ⟨(some 11), .load 22 (.tmp 10), none⟩,
    ⟨(some 12), .call ⟨.builtin .len, #[(.tmp 11)], #[22]⟩, none⟩,
    ⟨(some 13), .binOp .lss 3 (.tmp 7) (.tmp 12) 3, none⟩] [0, 3, 13])
  (.cond (.tmp 13) (.regQ [⟨(some 14), .move (.tmp 0), none⟩,
    ⟨(some 15), .nilCheck (.tmp 14), none⟩,
    ⟨(some 16), .fieldAddr 53 (.tmp 15) 0, none⟩,
    ⟨(some 17), .load 22 (.tmp 16), none⟩,
    ⟨(some 18), .move (.tmp 0), none⟩,
    ⟨(some 19), .nilCheck (.tmp 18), none⟩,
    ⟨(some 20), .fieldAddr 53 (.tmp 19) 1, none⟩,
    ⟨(some 21), .load 3 (.tmp 20), none⟩,
    ⟨(some 22), .indexAddr 22 (.tmp 17) (.tmp 21), none⟩,
    ⟨(some 23), .load 5 (.tmp 22), none⟩,
    ⟨(some 24), .convert 5 3 (.tmp 23), none⟩,
    ⟨(some 3), .assign (.tmp 24), none⟩] [0, 3])
  .skip))
  (.seq (.reg [⟨(some 25), .move (.tmp 0), none⟩,
    ⟨(some 26), .nilCheck (.tmp 25), none⟩,
    ⟨(some 27), .fieldAddr 53 (.tmp 26) 1, none⟩,
    ⟨(some 28), .load 3 (.tmp 27), none⟩,
    ⟨(some 29), .binOp .add 3 (.tmp 28) (.const (.int .i64 1)) 3, none⟩,
    ⟨(some 30), .nilCheck (.tmp 25), none⟩,
    ⟨(some 31), .fieldAddr 53 (.tmp 30) 1, none⟩,
    ⟨none, .store 3 (.tmp 31) (.tmp 29), none⟩] [0, 3])
  (.seq (.reg [⟨(some 32), .move (.tmp 0), none⟩,
    ⟨(some 33), .move (.tmp 0), none⟩,
    ⟨(some 34), .nilCheck (.tmp 33), none⟩,
    ⟨(some 35), .fieldAddr 53 (.tmp 34) 2, none⟩,
    ⟨(some 36), .load 51 (.tmp 35), none⟩,
    ⟨(some 37), .binOp .mul 51 (.tmp 36) (.const (.int .u64 6364136223846793005)) 51, none⟩,
    ⟨(some 38), .move (.tmp 3), none⟩,
    ⟨(some 39), .convert 3 51 (.tmp 38), none⟩,
    ⟨(some 40), .binOp .add 51 (.tmp 37) (.tmp 39) 51, none⟩,
    ⟨(some 41), .binOp .add 51 (.tmp 40) (.const (.int .u64 381907)) 51, none⟩,
    ⟨(some 42), .nilCheck (.tmp 32), none⟩,
    ⟨(some 43), .fieldAddr 53 (.tmp 42) 2, none⟩,
    ⟨none, .store 51 (.tmp 43) (.tmp 41), none⟩] [0, 3])
  (.seq (.seq (.regQ [⟨(some 44), .move (.tmp 0), none⟩,
    ⟨(some 45), .nilCheck (.tmp 44), none⟩,
    ⟨(some 46), .fieldAddr 53 (.tmp 45) 1, none⟩,
    ⟨(some 47), .load 3 (.tmp 46), none⟩,
    ⟨(some 48), .move (.tmp 0), none⟩,
    ⟨(some 49), .nilCheck (.tmp 48), none⟩,
    ⟨(some 50), .fieldAddr 53 (.tmp 49) 0, none⟩,
    ⟨(some 51), .load 22 (.tmp 50), none⟩,
    ⟨(some 52), .call ⟨.builtin .len, #[(.tmp 51)], #[22]⟩, none⟩,
    ⟨(some 53), .binOp .leq 3 (.tmp 47) (.tmp 52) 3, none⟩] [0, 3, 53])
  (.cond (.tmp 53) (.seq (.reg [⟨(some 54), .move (.tmp 3), none⟩,
    ⟨(some 2), .assign (.tmp 54), none⟩] [2])
  .ret)
  .skip))
  (.seq (.reg [⟨(some 55), .move (.tmp 0), none⟩,
    ⟨(some 56), .nilCheck (.tmp 55), none⟩,
    ⟨(some 57), .fieldAddr 53 (.tmp 56) 2, none⟩,
    ⟨(some 58), .load 51 (.tmp 57), none⟩,
    ⟨(some 59), .binOp .shr 51 (.tmp 58) (.const (.int .u64 40)) 71, none⟩,
    ⟨(some 60), .binOp .and 51 (.tmp 59) (.const (.int .u64 255)) 51, none⟩,
    ⟨(some 61), .convert 51 3 (.tmp 60), none⟩,
    ⟨(some 2), .assign (.tmp 61), none⟩] [2])
  .ret)))))))
theorem __spec_l1Cur__next_k : fnOk Tryd.prog (fun _ => false) 51 = some (__spec_l1Cur__next_c.strip, 62, [.tmp 2]) := by kernel_rfl
/-- (*loop.example/g01062/spec.l1Cur).printingNumber: number 52, params [0, 1] -/
def __spec_l1Cur__printingNumber_c : ACode := (.seq (.reg [⟨(some 4), .assign (.const (.int .i64 0)), none⟩] [0, 1])
  (.seq (.seq (.reg [⟨(some 5), .move (.tmp 1), none⟩,
    ⟨(some 6), .call ⟨.builtin .len, #[(.tmp 5)], #[24]⟩, none⟩,
    ⟨(some 7), .binOp .eql 3 (.tmp 6) (.const (.int .i64 0)) 3, none⟩,
    ⟨(some 8), .move (.tmp 7), none⟩,
    ⟨(some 9), .move (.tmp 0), (some (some 8, false))⟩,
    ⟨(some 10), .call ⟨.value (.func 27), #[(.tmp 9), (.const (.int .i64 10))], #[50, 3]⟩, (some (some 8, false))⟩,
    ⟨(some 11), .pick (.tmp 8) (.const (.bool true)) (.tmp 10), none⟩] [0, 1, 11])
  (.cond (.tmp 11) (.seq (.reg [⟨(some 12), .move (.tmp 0), none⟩,
    ⟨(some 13), .buildSlice 37 3 #[(0, (.const (.int .i64 0))), (1, (.const (.int .i64 1))), (2, (.const (.int .i64 50)))], none⟩,
    ⟨(some 14), .call ⟨.value (.func 41), #[(.tmp 12), (.tmp 13)], #[50, 37]⟩, none⟩,
    ⟨(some 4), .assign (.tmp 14), none⟩] [4])
  .ret)
  .skip))
  (.seq (.reg [⟨(some 15), .move (.tmp 1), none⟩,
    ⟨(some 16), .move (.tmp 0), none⟩,
    ⟨(some 17), .move (.tmp 1), none⟩,
    ⟨(some 18), .call ⟨.builtin .len, #[(.tmp 17)], #[24]⟩, none⟩,
    ⟨(some 19), .call ⟨.value (.func 28), #[(.tmp 16), (.tmp 18)], #[50, 3]⟩, none⟩,
    ⟨(some 20), .indexAddr 24 (.tmp 15) (.tmp 19), none⟩,
    ⟨(some 21), .fieldAddr 34 (.tmp 20) 0, none⟩,
    ⟨(some 22), .load 3 (.tmp 21), none⟩,
    ⟨(some 4), .assign (.tmp 22), none⟩] [4])
  .ret)))
theorem __spec_l1Cur__printingNumber_k : fnOk Tryd.prog (fun _ => false) 52 = some (__spec_l1Cur__printingNumber_c.strip, 23, [.tmp 4]) := by kernel_rfl
end Go.Proofs.YtegmlgikdniohaaDoor
