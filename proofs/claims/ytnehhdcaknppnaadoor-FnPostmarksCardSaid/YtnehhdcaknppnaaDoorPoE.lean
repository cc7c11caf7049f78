/- Printed by a program of ours: the functions' abstract code and facts on their types. -/
import Derived.Test.YtnehhdcaknppnaaDoorPoC
set_option maxRecDepth 8000
namespace Go.Proofs.YtnehhdcaknppnaaDoor
open Go Go.RowKit
@[simp] theorem dk_88 : dK Tryd.prog 88 = some (.int .u64) := by kernel_rfl
@[simp] theorem ty_88 : tyK Tryd.prog 88 = some .cell := by kernel_rfl
@[simp] theorem zero_88 : zeroK Tryd.prog 88 = some [.int .u64 0] := by kernel_rfl
@[simp] theorem ty_90 : tyK Tryd.prog 90 = some (.obj 3) := by kernel_rfl
@[simp] theorem fld_90_0 : fldK Tryd.prog 90 0 = some 0 := by kernel_rfl
@[simp] theorem fld_90_1 : fldK Tryd.prog 90 1 = some 1 := by kernel_rfl
@[simp] theorem fld_90_2 : fldK Tryd.prog 90 2 = some 2 := by kernel_rfl
@[simp] theorem pl_90 : plK Tryd.prog 90 = some (some [(0, 1), (1, 1), (2, 1)]) := by kernel_rfl
@[simp] theorem zero_90 : zeroK Tryd.prog 90 = some [.nils, .int .i64 0, .int .u64 0] := by kernel_rfl
/-- loop.example/g01062/spec.DrawLoseLetter: number 51, params [0] -/
def spec_DrawLoseLetter_c : ACode := (.seq (.reg [⟨(some 2), .assign (.const (.slice none 0 0)), none⟩,
    ⟨(some 3), .assign (.const (.int .i64 0)), none⟩,
    ⟨(some 4), .assign (.const (.int .i64 0)), none⟩] [0])
  (.seq (.reg [⟨(some 7), .move (.tmp 0), none⟩,
    ⟨(some 8), .build 90 #[(0, (.tmp 7))], none⟩,
    ⟨(some 9), .box 90 (.tmp 8), none⟩,
    ⟨(some 5), .assign (.tmp 9), none⟩] [5])
  (.seq (.reg [⟨(some 10), .move (.tmp 5), none⟩,
    ⟨(some 11), .call ⟨.value (.func 87), #[(.tmp 10)], #[87]⟩, none⟩,
    ⟨(some 6), .assign (.tmp 11), none⟩] [5, 6])
  (.seq (.reg [⟨(some 12), .move (.tmp 6), none⟩,
    ⟨(some 13), .move (.tmp 5), none⟩,
    ⟨(some 14), .move (.tmp 6), none⟩,
    ⟨(some 15), .call ⟨.value (.func 88), #[(.tmp 13), (.tmp 14)], #[87, 34]⟩, none⟩,
    ⟨(some 16), .move (.tmp 5), none⟩,
    ⟨(some 17), .buildSlice 51 7 #[(0, (.const (.int .i64 0))), (1, (.const (.int .i64 1))), (2, (.const (.int .i64 2))), (3, (.const (.int .i64 3))), (4, (.const (.int .i64 4))), (5, (.const (.int .i64 (-1)))), (6, (.const (.int .i64 5)))], none⟩,
    ⟨(some 18), .move (.tmp 5), none⟩,
    ⟨(some 19), .call ⟨.value (.func 90), #[(.tmp 18), (.const (.int .i64 24))], #[87, 3]⟩, none⟩,
    ⟨(some 20), .binOp .quo 3 (.tmp 19) (.const (.int .i64 12)) 3, none⟩,
    ⟨(some 21), .binOp .add 3 (.const (.int .i64 6)) (.tmp 20) 3, none⟩,
    ⟨(some 22), .slice 51 (.tmp 17) none (some (.tmp 21)) none, none⟩,
    ⟨(some 23), .call ⟨.value (.func 89), #[(.tmp 16), (.tmp 22)], #[87, 51]⟩, none⟩,
    ⟨(some 2), .assign (.tmp 12), none⟩,
    ⟨(some 3), .assign (.tmp 15), none⟩,
    ⟨(some 4), .assign (.tmp 23), none⟩] [2, 3, 4])
  .ret))))
theorem spec_DrawLoseLetter_k : fnOk Tryd.prog (fun _ => false) 51 = some (spec_DrawLoseLetter_c.strip, 24, [.tmp 2, .tmp 3, .tmp 4]) := by kernel_rfl
/-- loop.example/g01062/spec.DrawLatestUse: number 54, params [0] -/
def spec_DrawLatestUse_c : ACode := (.seq (.reg [⟨(some 2), .assign (.const (.slice none 0 0)), none⟩,
    ⟨(some 3), .assign (.const (.string ⟨#[]⟩)), none⟩] [0])
  (.seq (.reg [⟨(some 6), .move (.tmp 0), none⟩,
    ⟨(some 7), .build 90 #[(0, (.tmp 6))], none⟩,
    ⟨(some 8), .box 90 (.tmp 7), none⟩,
    ⟨(some 4), .assign (.tmp 8), none⟩] [4])
  (.seq (.reg [⟨(some 9), .move (.tmp 4), none⟩,
    ⟨(some 10), .call ⟨.value (.func 87), #[(.tmp 9)], #[87]⟩, none⟩,
    ⟨(some 5), .assign (.tmp 10), none⟩] [4, 5])
  (.seq (.seq (.reg [⟨(some 11), .move (.tmp 4), none⟩,
    ⟨(some 12), .call ⟨.value (.func 91), #[(.tmp 11), (.const (.int .i64 10))], #[87, 3]⟩, none⟩] [4, 5, 12])
  (.cond (.tmp 12) (.seq (.reg [⟨(some 13), .move (.tmp 5), none⟩,
    ⟨(some 14), .move (.tmp 4), none⟩,
    ⟨(some 15), .buildSlice 57 3 #[(0, (.const (.string ⟨#[122, 117, 103]⟩))), (1, (.const (.string ⟨#[]⟩))), (2, (.const (.string ⟨#[66, 101, 114, 110]⟩)))], none⟩,
    ⟨(some 16), .call ⟨.value (.func 92), #[(.tmp 14), (.tmp 15)], #[87, 57]⟩, none⟩,
    ⟨(some 2), .assign (.tmp 13), none⟩,
    ⟨(some 3), .assign (.tmp 16), none⟩] [2, 3])
  .ret)
  .skip))
  (.seq (.reg [⟨(some 17), .move (.tmp 5), none⟩,
    ⟨(some 18), .move (.tmp 4), none⟩,
    ⟨(some 19), .call ⟨.value (.func 93), #[(.tmp 18)], #[87]⟩, none⟩,
    ⟨(some 2), .assign (.tmp 17), none⟩,
    ⟨(some 3), .assign (.tmp 19), none⟩] [2, 3])
  .ret)))))
theorem spec_DrawLatestUse_k : fnOk Tryd.prog (fun _ => false) 54 = some (spec_DrawLatestUse_c.strip, 20, [.tmp 2, .tmp 3]) := by kernel_rfl
/-- loop.example/g01062/spec.DrawSameTown: number 55, params [0] -/
def spec_DrawSameTown_c : ACode := (.seq (.reg [⟨(some 2), .assign (.const (.slice none 0 0)), none⟩,
    ⟨(some 3), .assign (.const (.int .i64 0)), none⟩,
    ⟨(some 4), .assign (.const (.int .i64 0)), none⟩] [0])
  (.seq (.reg [⟨(some 7), .move (.tmp 0), none⟩,
    ⟨(some 8), .build 90 #[(0, (.tmp 7))], none⟩,
    ⟨(some 9), .box 90 (.tmp 8), none⟩,
    ⟨(some 5), .assign (.tmp 9), none⟩] [5])
  (.seq (.reg [⟨(some 10), .move (.tmp 5), none⟩,
    ⟨(some 11), .call ⟨.value (.func 87), #[(.tmp 10)], #[87]⟩, none⟩,
    ⟨(some 6), .assign (.tmp 11), none⟩] [5, 6])
  (.seq (.reg [⟨(some 12), .move (.tmp 6), none⟩,
    ⟨(some 13), .move (.tmp 5), none⟩,
    ⟨(some 14), .move (.tmp 6), none⟩,
    ⟨(some 15), .call ⟨.value (.func 88), #[(.tmp 13), (.tmp 14)], #[87, 34]⟩, none⟩,
    ⟨(some 16), .move (.tmp 5), none⟩,
    ⟨(some 17), .move (.tmp 6), none⟩,
    ⟨(some 18), .call ⟨.value (.func 88), #[(.tmp 16), (.tmp 17)], #[87, 34]⟩, none⟩,
    ⟨(some 2), .assign (.tmp 12), none⟩,
    ⟨(some 3), .assign (.tmp 15), none⟩,
    ⟨(some 4), .assign (.tmp 18), none⟩] [2, 3, 4])
  .ret))))
theorem spec_DrawSameTown_k : fnOk Tryd.prog (fun _ => false) 55 = some (spec_DrawSameTown_c.strip, 19, [.tmp 2, .tmp 3, .tmp 4]) := by kernel_rfl
/-- loop.example/g01062/spec.DrawReadMarks: number 56, params [0] -/
def spec_DrawReadMarks_c : ACode := (.seq (.reg [⟨(some 2), .assign (.const (.slice none 0 0)), none⟩,
    ⟨(some 3), .assign (.const (.string ⟨#[]⟩)), none⟩,
    ⟨(some 4), .assign (.const (.int .i64 0)), none⟩] [0])
  (.seq (.reg [⟨(some 9), .move (.tmp 0), none⟩,
    ⟨(some 10), .build 90 #[(0, (.tmp 9))], none⟩,
    ⟨(some 11), .box 90 (.tmp 10), none⟩,
    ⟨(some 5), .assign (.tmp 11), none⟩] [5])
  (.seq (.reg [⟨(some 12), .move (.tmp 5), none⟩,
    ⟨(some 13), .call ⟨.value (.func 87), #[(.tmp 12)], #[87]⟩, none⟩,
    ⟨(some 6), .assign (.tmp 13), none⟩] [5, 6])
  (.seq (.reg [⟨(some 14), .move (.tmp 5), none⟩,
    ⟨(some 15), .buildSlice 57 9 #[(0, (.const (.string ⟨#[98, 63, 114, 110]⟩))), (1, (.const (.string ⟨#[98, 63, 110, 63]⟩))), (2, (.const (.string ⟨#[63, 63, 63, 63]⟩))), (3, (.const (.string ⟨#[63, 63, 63, 63, 63]⟩))), (4, (.const (.string ⟨#[103, 101, 110, 102]⟩))), (5, (.const (.string ⟨#[]⟩))), (6, (.const (.string ⟨#[66]⟩))), (7, (.const (.string ⟨#[97, 98, 99, 100, 101, 102, 103, 104, 105, 106, 107]⟩))), (8, (.const (.string ⟨#[98, 97, 115, 101, 108]⟩)))], none⟩,
    ⟨(some 16), .call ⟨.value (.func 92), #[(.tmp 14), (.tmp 15)], #[87, 57]⟩, none⟩,
    ⟨(some 7), .assign (.tmp 16), none⟩] [5, 6, 7])
  (.seq (.seq (.reg [⟨(some 17), .move (.tmp 6), none⟩,
    ⟨(some 18), .call ⟨.builtin .len, #[(.tmp 17)], #[34]⟩, none⟩,
    ⟨(some 8), .assign (.tmp 18), none⟩] [5, 6, 7, 8])
  (.seq (.reg [⟨(some 19), .move (.tmp 8), none⟩,
    ⟨(some 20), .binOp .gtr 3 (.tmp 19) (.const (.int .i64 0)) 3, none⟩,
    ⟨(some 21), .move (.tmp 20), none⟩,
    ⟨(some 22), .move (.tmp 5), (some (some 21, true))⟩,
    ⟨(some 23), .call ⟨.value (.func 91), #[(.tmp 22), (.const (.int .i64 3))], #[87, 3]⟩, (some (some 21, true))⟩,
    ⟨(some 24), .unOp .not 4 (.tmp 23), (some (some 21, true))⟩,
    ⟨(some 25), .pick (.tmp 21) (.tmp 24) (.const (.bool false)), none⟩] [5, 6, 7, 8, 25])
  (.cond (.tmp 25) (.seq (.reg [⟨(some 27), .move (.tmp 6), none⟩,
    ⟨(some 28), .move (.tmp 5), none⟩,
    ⟨(some 29), .move (.tmp 8), none⟩,
    ⟨(some 30), .call ⟨.value (.func 90), #[(.tmp 28), (.tmp 29)], #[87, 3]⟩, none⟩,
    ⟨(some 31), .indexAddr 34 (.tmp 27) (.tmp 30), none⟩,
    ⟨(some 32), .load 26 (.tmp 31), none⟩,
    ⟨(some 33), .call ⟨.value (.func 19), #[(.tmp 32)], #[26]⟩, none⟩,
    ⟨(some 26), .move (.tmp 33), none⟩,
    ⟨(some 34), .extract (.tmp 26) 0, none⟩,
    ⟨(some 35), .extract (.tmp 26) 1, none⟩,
    ⟨(some 7), .assign (.tmp 34), none⟩] [5, 6, 7])
  (.seq (.reg [⟨(some 36), .move (.tmp 5), none⟩,
    ⟨(some 37), .call ⟨.value (.func 91), #[(.tmp 36), (.const (.int .i64 2))], #[87, 3]⟩, none⟩,
    ⟨(some 38), .move (.tmp 37), none⟩,
    ⟨(some 39), .move (.tmp 7), (some (some 38, true))⟩,
    ⟨(some 40), .call ⟨.builtin .len, #[(.tmp 39)], #[9]⟩, (some (some 38, true))⟩,
    ⟨(some 41), .binOp .gtr 3 (.tmp 40) (.const (.int .i64 1)) 3, (some (some 38, true))⟩,
    ⟨(some 42), .pick (.tmp 38) (.tmp 41) (.const (.bool false)), none⟩] [5, 6, 7, 42])
  (.cond (.tmp 42) (.regQ [⟨(some 43), .move (.tmp 7), none⟩,
    ⟨(some 44), .slice 9 (.tmp 43) none (some (.const (.int .i64 1))) none, none⟩,
    ⟨(some 45), .binOp .add 9 (.tmp 44) (.const (.string ⟨#[63]⟩)) 9, none⟩,
    ⟨(some 46), .move (.tmp 7), none⟩,
    ⟨(some 47), .slice 9 (.tmp 46) (some (.const (.int .i64 2))) none none, none⟩,
    ⟨(some 48), .binOp .add 9 (.tmp 45) (.tmp 47) 9, none⟩,
    ⟨(some 7), .assign (.tmp 48), none⟩] [5, 6, 7])
  .skip)))
  .skip)))
  (.seq (.reg [⟨(some 49), .move (.tmp 6), none⟩,
    ⟨(some 50), .move (.tmp 7), none⟩,
    ⟨(some 51), .move (.tmp 5), none⟩,
    ⟨(some 52), .move (.tmp 6), none⟩,
    ⟨(some 53), .call ⟨.value (.func 94), #[(.tmp 51), (.tmp 52)], #[87, 34]⟩, none⟩,
    ⟨(some 2), .assign (.tmp 49), none⟩,
    ⟨(some 3), .assign (.tmp 50), none⟩,
    ⟨(some 4), .assign (.tmp 53), none⟩] [2, 3, 4])
  .ret))))))
theorem spec_DrawReadMarks_k : fnOk Tryd.prog (fun _ => false) 56 = some (spec_DrawReadMarks_c.strip, 54, [.tmp 2, .tmp 3, .tmp 4]) := by kernel_rfl
/-- loop.example/g01062/spec.DrawShownBy: number 57, params [0] -/
def spec_DrawShownBy_c : ACode := (.seq (.reg [⟨(some 2), .alloc 26, none⟩] [0, 2])
  (.seq (.reg [⟨(some 3), .move (.tmp 0), none⟩,
    ⟨(some 4), .call ⟨.value (.func 95), #[(.tmp 3)], #[63]⟩, none⟩,
    ⟨none, .store 26 (.tmp 2) (.tmp 4), none⟩] [2])
  .ret))
theorem spec_DrawShownBy_k : fnOk Tryd.prog (fun _ => false) 57 = some (spec_DrawShownBy_c.strip, 5, [.cell 2 26]) := by kernel_rfl
/-- head: [0, 3, 4, 5] -/
def __spec_l1Cur__postmarks11_l0 : ACode := (.seq (.seq (.reg [⟨(some 10), .move (.tmp 5), none⟩,
    ⟨(some 11), .binOp .gtr 3 (.tmp 10) (.const (.int .i64 0)) 3, none⟩] [0, 3, 4, 5, 11])
  (.cond (.tmp 11) .skip
  (.exit 0)))
  (.seq (.block 1 (.seq (.reg [⟨(some 14), .move (.tmp 4), none⟩,
    ⟨(some 15), .binOp .add 3 (.tmp 14) (.const (.int .i64 1)) 3, none⟩,
    ⟨(some 16), .move (.tmp 0), none⟩,
    ⟨(some 17), .call ⟨.value (.func 90), #[(.tmp 16), (.const (.int .i64 3))], #[87, 3]⟩, none⟩,
    ⟨(some 18), .binOp .add 3 (.tmp 15) (.tmp 17) 3, none⟩,
    ⟨(some 19), .move (.tmp 0), none⟩,
    ⟨(some 20), .call ⟨.value (.func 90), #[(.tmp 19), (.const (.int .i64 150))], #[87, 3]⟩, none⟩,
    ⟨(some 21), .binOp .quo 3 (.tmp 20) (.const (.int .i64 149)) 3, none⟩,
    ⟨(some 22), .binOp .sub 3 (.tmp 18) (.tmp 21) 3, none⟩,
    ⟨(some 4), .assign (.tmp 22), none⟩] [0, 3, 4, 5])
  (.reg [⟨(some 23), .move (.tmp 3), none⟩,
    ⟨(some 24), .move (.tmp 0), none⟩,
    ⟨(some 25), .move (.tmp 4), none⟩,
    ⟨(some 26), .call ⟨.value (.func 104), #[(.tmp 24), (.tmp 25)], #[87, 3]⟩, none⟩,
    ⟨(some 27), .buildSlice 34 1 #[(0, (.tmp 26))], none⟩,
    ⟨(some 28), .call ⟨.builtin .append, #[(.tmp 23), (.tmp 27)], #[34, 34]⟩, none⟩,
    ⟨(some 3), .assign (.tmp 28), none⟩] [0, 3, 4, 5])))
  (.reg [⟨(some 12), .move (.tmp 5), none⟩,
    ⟨(some 13), .binOp .sub 3 (.tmp 12) (.const (.int .i64 1)) 3, none⟩,
    ⟨(some 5), .assign (.tmp 13), none⟩] [0, 3, 4, 5])))
/-- head: [0, 3, 6] -/
def __spec_l1Cur__postmarks11_l1 : ACode := (.seq (.seq (.reg [⟨(some 32), .move (.tmp 6), none⟩,
    ⟨(some 33), .move (.tmp 0), none⟩,
    ⟨(some 34), .call ⟨.value (.func 90), #[(.tmp 33), (.const (.int .i64 2))], #[87, 3]⟩, none⟩,
    ⟨(some 35), .binOp .add 3 (.const (.int .i64 12)) (.tmp 34) 3, none⟩,
    ⟨(some 36), .binOp .lss 3 (.tmp 32) (.tmp 35) 3, none⟩] [0, 3, 6, 36])
  (.cond (.tmp 36) .skip
  (.exit 2)))
  (.seq (.block 3 (.reg [⟨(some 39), .move (.tmp 3), none⟩,
    ⟨(some 40), .move (.tmp 6), none⟩,
    ⟨(some 41), .binOp .add 3 (.tmp 40) (.const (.int .i64 1)) 3, none⟩,
    ⟨(some 42), .move (.tmp 6), none⟩,
    ⟨(some 43), .binOp .mul 3 (.const (.int .i64 20)) (.tmp 42) 3, none⟩,
    ⟨(some 44), .move (.tmp 6), none⟩,
    ⟨(some 45), .binOp .mul 3 (.const (.int .i64 20)) (.tmp 44) 3, none⟩,
    ⟨(some 46), .binOp .add 3 (.tmp 45) (.const (.int .i64 10)) 3, none⟩,
    ⟨(some 47), .build 26 #[(0, (.tmp 41)), (1, (.const (.string ⟨#[98, 101, 114, 110]⟩))), (2, (.const (.int .i64 1))), (3, (.tmp 43)), (4, (.tmp 46)), (5, (.const (.string ⟨#[46, 46, 46, 46]⟩)))], none⟩,
    ⟨(some 48), .buildSlice 34 1 #[(0, (.tmp 47))], none⟩,
    ⟨(some 49), .call ⟨.builtin .append, #[(.tmp 39), (.tmp 48)], #[34, 34]⟩, none⟩,
    ⟨(some 3), .assign (.tmp 49), none⟩] [0, 3, 6]))
  (.reg [⟨(some 37), .move (.tmp 6), none⟩,
    ⟨(some 38), .binOp .add 3 (.tmp 37) (.const (.int .i64 1)) 3, none⟩,
    ⟨(some 6), .assign (.tmp 38), none⟩] [0, 3, 6])))
/-- (*loop.example/g01062/spec.l1Cur).postmarks11: number 87, params [0] -/
def __spec_l1Cur__postmarks11_c : ACode := (.seq (.reg [⟨(some 2), .assign (.const (.slice none 0 0)), none⟩] [0])
  (.seq (.reg [⟨(some 7), .buildSlice 34 0 #[], none⟩,
    ⟨(some 3), .assign (.tmp 7), none⟩] [0, 3])
  (.seq (.reg [⟨(some 4), .assign (.const (.int .i64 0)), none⟩] [0, 3, 4])
  (.seq (.seq (.reg [⟨(some 8), .move (.tmp 0), none⟩,
    ⟨(some 9), .call ⟨.value (.func 90), #[(.tmp 8), (.const (.int .i64 8))], #[87, 3]⟩, none⟩,
    ⟨(some 5), .assign (.tmp 9), none⟩] [0, 3, 4, 5])
  (.block 0 (.loop __spec_l1Cur__postmarks11_l0)))
  (.seq (.seq (.reg [⟨(some 29), .move (.tmp 0), none⟩,
    ⟨(some 30), .call ⟨.value (.func 91), #[(.tmp 29), (.const (.int .i64 24))], #[87, 3]⟩, none⟩] [0, 3, 30])
  (.cond (.tmp 30) (.seq (.reg [⟨(some 31), .buildSlice 34 0 #[], none⟩,
    ⟨(some 3), .assign (.tmp 31), none⟩] [0, 3])
  (.seq (.reg [⟨(some 6), .assign (.const (.int .i64 0)), none⟩] [0, 3, 6])
  (.block 2 (.loop __spec_l1Cur__postmarks11_l1))))
  .skip))
  (.seq (.reg [⟨(some 50), .move (.tmp 3), none⟩,
    ⟨(some 2), .assign (.tmp 50), none⟩] [2])
  .ret))))))
theorem __spec_l1Cur__postmarks11_k : fnOk Tryd.prog (fun _ => false) 87 = some (__spec_l1Cur__postmarks11_c.strip, 51, [.tmp 2]) := by kernel_rfl
/-- (*loop.example/g01062/spec.l1Cur).postmarkId: number 88, params [0, 1] -/
def __spec_l1Cur__postmarkId_c : ACode := (.seq (.reg [⟨(some 4), .assign (.const (.int .i64 0)), none⟩] [0, 1])
  (.seq (.seq (.reg [⟨(some 5), .move (.tmp 1), none⟩,
    ⟨(some 6), .call ⟨.builtin .len, #[(.tmp 5)], #[34]⟩, none⟩,
    ⟨(some 7), .binOp .eql 3 (.tmp 6) (.const (.int .i64 0)) 3, none⟩,
    ⟨(some 8), .move (.tmp 7), none⟩,
    ⟨(some 9), .move (.tmp 0), (some (some 8, false))⟩,
    ⟨(some 10), .call ⟨.value (.func 91), #[(.tmp 9), (.const (.int .i64 10))], #[87, 3]⟩, (some (some 8, false))⟩,
    ⟨(some 11), .pick (.tmp 8) (.const (.bool true)) (.tmp 10), none⟩] [0, 1, 11])
  (.cond (.tmp 11) (.seq (.reg [⟨(some 12), .move (.tmp 0), none⟩,
    ⟨(some 13), .buildSlice 51 3 #[(0, (.const (.int .i64 0))), (1, (.const (.int .i64 1))), (2, (.const (.int .i64 500)))], none⟩,
    ⟨(some 14), .call ⟨.value (.func 89), #[(.tmp 12), (.tmp 13)], #[87, 51]⟩, none⟩,
    ⟨(some 4), .assign (.tmp 14), none⟩] [4])
  .ret)
  .skip))
  (.seq (.reg [⟨(some 15), .move (.tmp 1), none⟩,
    ⟨(some 16), .move (.tmp 0), none⟩,
    ⟨(some 17), .move (.tmp 1), none⟩,
    ⟨(some 18), .call ⟨.builtin .len, #[(.tmp 17)], #[34]⟩, none⟩,
    ⟨(some 19), .call ⟨.value (.func 90), #[(.tmp 16), (.tmp 18)], #[87, 3]⟩, none⟩,
    ⟨(some 20), .indexAddr 34 (.tmp 15) (.tmp 19), none⟩,
    ⟨(some 21), .fieldAddr 26 (.tmp 20) 0, none⟩,
    ⟨(some 22), .load 3 (.tmp 21), none⟩,
    ⟨(some 4), .assign (.tmp 22), none⟩] [4])
  .ret)))
theorem __spec_l1Cur__postmarkId_k : fnOk Tryd.prog (fun _ => false) 88 = some (__spec_l1Cur__postmarkId_c.strip, 23, [.tmp 4]) := by kernel_rfl
/-- (*loop.example/g01062/spec.l1Cur).among: number 89, params [0, 1] -/
def __spec_l1Cur__among_c : ACode := (.seq (.reg [⟨(some 4), .assign (.const (.int .i64 0)), none⟩] [0, 1])
  (.seq (.reg [⟨(some 5), .move (.tmp 1), none⟩,
    ⟨(some 6), .move (.tmp 0), none⟩,
    ⟨(some 7), .move (.tmp 1), none⟩,
    ⟨(some 8), .call ⟨.builtin .len, #[(.tmp 7)], #[51]⟩, none⟩,
    ⟨(some 9), .call ⟨.value (.func 90), #[(.tmp 6), (.tmp 8)], #[87, 3]⟩, none⟩,
    ⟨(some 10), .indexAddr 51 (.tmp 5) (.tmp 9), none⟩,
    ⟨(some 11), .load 3 (.tmp 10), none⟩,
    ⟨(some 4), .assign (.tmp 11), none⟩] [4])
  .ret))
theorem __spec_l1Cur__among_k : fnOk Tryd.prog (fun _ => false) 89 = some (__spec_l1Cur__among_c.strip, 12, [.tmp 4]) := by kernel_rfl
/-- (*loop.example/g01062/spec.l1Cur).pick: number 90, params [0, 1] -/
def __spec_l1Cur__pick_c : ACode := (.seq (.reg [⟨(some 4), .assign (.const (.int .i64 0)), none⟩] [0, 1])
  (.seq (.seq (.reg [⟨(some 6), .move (.tmp 1), none⟩,
    ⟨(some 7), .binOp .leq 3 (.tmp 6) (.const (.int .i64 1)) 3, none⟩] [0, 1, 7])
  (.cond (.tmp 7) (.seq (.reg [⟨(some 4), .assign (.const (.int .i64 0)), none⟩] [4])
  .ret)
  .skip))
  (.seq (.reg [⟨(some 8), .move (.tmp 0), none⟩,
    ⟨(some 9), .call ⟨.value (.func 105), #[(.tmp 8)], #[87]⟩, none⟩,
    ⟨(some 5), .assign (.tmp 9), none⟩] [0, 1, 5])
  (.seq (.seq (.reg [⟨(some 10), .move (.tmp 1), none⟩,
    ⟨(some 11), .binOp .gtr 3 (.tmp 10) (.const (.int .i64 200)) 3, none⟩] [0, 1, 5, 11])
  (.cond (.tmp 11) (.reg [⟨(some 12), .move (.tmp 5), none⟩,
    ⟨(some 13), .binOp .mul 3 (.tmp 12) (.const (.int .i64 256)) 3, none⟩,
    ⟨(some 14), .move (.tmp 0), none⟩,
    ⟨(some 15), .call ⟨.value (.func 105), #[(.tmp 14)], #[87]⟩, none⟩,
    ⟨(some 16), .binOp .add 3 (.tmp 13) (.tmp 15) 3, none⟩,
    ⟨(some 5), .assign (.tmp 16), none⟩] [1, 5])
  .skip))
  (.seq (.reg [⟨(some 17), .move (.tmp 5), none⟩,
    ⟨(some 18), .move (.tmp 1), none⟩,
    ⟨(some 19), .binOp .rem 3 (.tmp 17) (.tmp 18) 3, none⟩,
    ⟨(some 4), .assign (.tmp 19), none⟩] [4])
  .ret)))))
theorem __spec_l1Cur__pick_k : fnOk Tryd.prog (fun _ => false) 90 = some (__spec_l1Cur__pick_c.strip, 20, [.tmp 4]) := by kernel_rfl
/-- (*loop.example/g01062/spec.l1Cur).one: number 91, params [0, 1] -/
def __spec_l1Cur__one_c : ACode := (.seq (.reg [⟨(some 4), .assign (.const (.bool false)), none⟩] [0, 1])
  (.seq (.reg [⟨(some 5), .move (.tmp 0), none⟩,
    ⟨(some 6), .move (.tmp 1), none⟩,
    ⟨(some 7), .call ⟨.value (.func 90), #[(.tmp 5), (.tmp 6)], #[87, 3]⟩, none⟩,
    ⟨(some 8), .binOp .eql 3 (.tmp 7) (.const (.int .i64 0)) 3, none⟩,
    ⟨(some 4), .assign (.tmp 8), none⟩] [4])
  .ret))
theorem __spec_l1Cur__one_k : fnOk Tryd.prog (fun _ => false) 91 = some (__spec_l1Cur__one_c.strip, 9, [.tmp 4]) := by kernel_rfl
/-- (*loop.example/g01062/spec.l1Cur).of: number 92, params [0, 1] -/
def __spec_l1Cur__of_c : ACode := (.seq (.reg [⟨(some 4), .assign (.const (.string ⟨#[]⟩)), none⟩] [0, 1])
  (.seq (.reg [⟨(some 5), .move (.tmp 1), none⟩,
    ⟨(some 6), .move (.tmp 0), none⟩,
    ⟨(some 7), .move (.tmp 1), none⟩,
    ⟨(some 8), .call ⟨.builtin .len, #[(.tmp 7)], #[57]⟩, none⟩,
    ⟨(some 9), .call ⟨.value (.func 90), #[(.tmp 6), (.tmp 8)], #[87, 3]⟩, none⟩,
    ⟨(some 10), .indexAddr 57 (.tmp 5) (.tmp 9), none⟩,
    ⟨(some 11), .load 9 (.tmp 10), none⟩,
    ⟨(some 4), .assign (.tmp 11), none⟩] [4])
  .ret))
theorem __spec_l1Cur__of_k : fnOk Tryd.prog (fun _ => false) 92 = some (__spec_l1Cur__of_c.strip, 12, [.tmp 4]) := by kernel_rfl
/-- (*loop.example/g01062/spec.l1Cur).town11: number 93, params [0] -/
def __spec_l1Cur__town11_c : ACode := (.seq (.reg [⟨(some 2), .assign (.const (.string ⟨#[]⟩)), none⟩] [0])
  (.seq (.reg [⟨(some 3), .move (.tmp 0), none⟩,
    ⟨(some 4), .buildSlice 57 5 #[(0, (.const (.string ⟨#[98, 97, 115, 101, 108]⟩))), (1, (.const (.string ⟨#[98, 101, 114, 110]⟩))), (2, (.const (.string ⟨#[98, 111, 110, 110]⟩))), (3, (.const (.string ⟨#[103, 101, 110, 102]⟩))), (4, (.const (.string ⟨#[98, 97, 115, 101, 108]⟩)))], none⟩,
    ⟨(some 5), .call ⟨.value (.func 92), #[(.tmp 3), (.tmp 4)], #[87, 57]⟩, none⟩,
    ⟨(some 2), .assign (.tmp 5), none⟩] [2])
  .ret))
theorem __spec_l1Cur__town11_k : fnOk Tryd.prog (fun _ => false) 93 = some (__spec_l1Cur__town11_c.strip, 6, [.tmp 2]) := by kernel_rfl
/-- (*loop.example/g01062/spec.l1Cur).day11: number 94, params [0, 1] -/
def __spec_l1Cur__day11_c : ACode := (.seq (.reg [⟨(some 4), .assign (.const (.int .i64 0)), none⟩] [0, 1])
  (.seq (.seq (.reg [⟨(some 6), .move (.tmp 1), none⟩,
    ⟨(some 7), .call ⟨.builtin .len, #[(.tmp 6)], #[34]⟩, none⟩,
    ⟨(some 8), .binOp .eql 3 (.tmp 7) (.const (.int .i64 0)) 3, none⟩,
    ⟨(some 9), .move (.tmp 8), none⟩,
    ⟨(some 10), .move (.tmp 0), (some (some 9, false))⟩,
    ⟨(some 11), .call ⟨.value (.func 91), #[(.tmp 10), (.const (.int .i64 5))], #[87, 3]⟩, (some (some 9, false))⟩,
    ⟨(some 12), .pick (.tmp 9) (.const (.bool true)) (.tmp 11), none⟩] [0, 1, 12])
  (.cond (.tmp 12) (.seq (.reg [⟨(some 13), .move (.tmp 0), none⟩,
    ⟨(some 14), .buildSlice 51 5 #[(0, (.const (.int .i64 0))), (1, (.const (.int .i64 150))), (2, (.const (.int .i64 4000))), (3, (.const (.int .i64 (-1)))), (4, (.const (.int .i64 4001)))], none⟩,
    ⟨(some 15), .move (.tmp 0), none⟩,
    ⟨(some 16), .call ⟨.value (.func 90), #[(.tmp 15), (.const (.int .i64 24))], #[87, 3]⟩, none⟩,
    ⟨(some 17), .binOp .quo 3 (.tmp 16) (.const (.int .i64 12)) 3, none⟩,
    ⟨(some 18), .binOp .add 3 (.const (.int .i64 4)) (.tmp 17) 3, none⟩,
    ⟨(some 19), .slice 51 (.tmp 14) none (some (.tmp 18)) none, none⟩,
    ⟨(some 20), .call ⟨.value (.func 89), #[(.tmp 13), (.tmp 19)], #[87, 51]⟩, none⟩,
    ⟨(some 4), .assign (.tmp 20), none⟩] [4])
  .ret)
  .skip))
  (.seq (.reg [⟨(some 21), .move (.tmp 1), none⟩,
    ⟨(some 22), .move (.tmp 0), none⟩,
    ⟨(some 23), .move (.tmp 1), none⟩,
    ⟨(some 24), .call ⟨.builtin .len, #[(.tmp 23)], #[34]⟩, none⟩,
    ⟨(some 25), .call ⟨.value (.func 90), #[(.tmp 22), (.tmp 24)], #[87, 3]⟩, none⟩,
    ⟨(some 26), .indexAddr 34 (.tmp 21) (.tmp 25), none⟩,
    ⟨(some 27), .load 26 (.tmp 26), none⟩,
    ⟨(some 5), .alloc 26, none⟩,
    ⟨none, .store 26 (.tmp 5) (.tmp 27), none⟩] [0, 5])
  (.seq (.reg [⟨(some 28), .move (.tmp 0), none⟩,
    ⟨(some 29), .fieldAddr 26 (.tmp 5) 3, none⟩,
    ⟨(some 30), .load 3 (.tmp 29), none⟩,
    ⟨(some 31), .fieldAddr 26 (.tmp 5) 3, none⟩,
    ⟨(some 32), .load 3 (.tmp 31), none⟩,
    ⟨(some 33), .binOp .sub 3 (.tmp 32) (.const (.int .i64 1)) 3, none⟩,
    ⟨(some 34), .fieldAddr 26 (.tmp 5) 4, none⟩,
    ⟨(some 35), .load 3 (.tmp 34), none⟩,
    ⟨(some 36), .fieldAddr 26 (.tmp 5) 4, none⟩,
    ⟨(some 37), .load 3 (.tmp 36), none⟩,
    ⟨(some 38), .binOp .add 3 (.tmp 37) (.const (.int .i64 1)) 3, none⟩,
    ⟨(some 39), .fieldAddr 26 (.tmp 5) 3, none⟩,
    ⟨(some 40), .load 3 (.tmp 39), none⟩,
    ⟨(some 41), .binOp .add 3 (.tmp 40) (.const (.int .i64 5)) 3, none⟩,
    ⟨(some 42), .buildSlice 51 5 #[(0, (.tmp 30)), (1, (.tmp 33)), (2, (.tmp 35)), (3, (.tmp 38)), (4, (.tmp 41))], none⟩,
    ⟨(some 43), .call ⟨.value (.func 89), #[(.tmp 28), (.tmp 42)], #[87, 51]⟩, none⟩,
    ⟨(some 44), .call ⟨.value (.func 69), #[(.const (.int .i64 0)), (.tmp 43)], #[3, 3]⟩, none⟩,
    ⟨(some 45), .call ⟨.value (.func 68), #[(.const (.int .i64 4000)), (.tmp 44)], #[3, 3]⟩, none⟩,
    ⟨(some 4), .assign (.tmp 45), none⟩] [4])
  .ret))))
theorem __spec_l1Cur__day11_k : fnOk Tryd.prog (fun _ => false) 94 = some (__spec_l1Cur__day11_c.strip, 46, [.tmp 4]) := by kernel_rfl
/-- loop.example/g01062/spec.DrawIsPostmark: number 95, params [0] -/
def spec_DrawIsPostmark_c : ACode := (.seq (.reg [⟨(some 2), .alloc 26, none⟩] [0, 2])
  (.seq (.reg [⟨(some 4), .move (.tmp 0), none⟩,
    ⟨(some 5), .build 90 #[(0, (.tmp 4))], none⟩,
    ⟨(some 6), .box 90 (.tmp 5), none⟩,
    ⟨(some 3), .assign (.tmp 6), none⟩] [2, 3])
  (.seq (.reg [⟨(some 7), .move (.tmp 3), none⟩,
    ⟨(some 8), .move (.tmp 3), none⟩,
    ⟨(some 9), .buildSlice 51 3 #[(0, (.const (.int .i64 1))), (1, (.const (.int .i64 42))), (2, (.const (.int .i64 999)))], none⟩,
    ⟨(some 10), .call ⟨.value (.func 89), #[(.tmp 8), (.tmp 9)], #[87, 51]⟩, none⟩,
    ⟨(some 11), .call ⟨.value (.func 104), #[(.tmp 7), (.tmp 10)], #[87, 3]⟩, none⟩,
    ⟨none, .store 26 (.tmp 2) (.tmp 11), none⟩] [2])
  .ret)))
theorem spec_DrawIsPostmark_k : fnOk Tryd.prog (fun _ => false) 95 = some (spec_DrawIsPostmark_c.strip, 12, [.cell 2 26]) := by kernel_rfl
/-- head: [0, 4, 5, 6] -/
def __spec_l1Cur__postmark11_l0 : ACode := (.seq (.seq (.reg [⟨(some 25), .move (.tmp 6), none⟩,
    ⟨(some 26), .fieldAddr 26 (.tmp 5) 1, none⟩,
    ⟨(some 27), .load 9 (.tmp 26), none⟩,
    ⟨(some 28), .call ⟨.builtin .len, #[(.tmp 27)], #[9]⟩, none⟩,
    ⟨(some 29), .binOp .lss 3 (.tmp 25) (.tmp 28) 3, none⟩] [0, 4, 5, 6, 29])
  (.cond (.tmp 29) .skip
  (.exit 0)))
  (.seq (.block 1 (.seq (.reg [⟨(some 32), .move (.tmp 6), none⟩,
    ⟨(some 33), .binOp .gtr 3 (.tmp 32) (.const (.int .i64 0)) 3, none⟩,
    ⟨(some 34), .move (.tmp 33), none⟩,
    ⟨(some 35), .move (.tmp 0), (some (some 34, true))⟩,
    ⟨(some 36), .call ⟨.value (.func 91), #[(.tmp 35), (.const (.int .i64 4))], #[87, 3]⟩, (some (some 34, true))⟩,
    ⟨(some 37), .pick (.tmp 34) (.tmp 36) (.const (.bool false)), none⟩] [0, 4, 5, 6, 37])
  (.cond (.tmp 37) (.reg [⟨(some 38), .fieldAddr 26 (.tmp 5) 5, none⟩,
    ⟨(some 39), .load 9 (.tmp 38), none⟩,
    ⟨(some 40), .binOp .add 9 (.tmp 39) (.const (.string ⟨#[120]⟩)) 9, none⟩,
    ⟨(some 41), .fieldAddr 26 (.tmp 5) 5, none⟩,
    ⟨none, .store 9 (.tmp 41) (.tmp 40), none⟩] [0, 4, 5, 6])
  (.reg [⟨(some 42), .fieldAddr 26 (.tmp 5) 5, none⟩,
    ⟨(some 43), .load 9 (.tmp 42), none⟩,
    ⟨(some 44), .binOp .add 9 (.tmp 43) (.const (.string ⟨#[46]⟩)) 9, none⟩,
    ⟨(some 45), .fieldAddr 26 (.tmp 5) 5, none⟩,
    ⟨none, .store 9 (.tmp 45) (.tmp 44), none⟩] [0, 4, 5, 6]))))
  (.reg [⟨(some 30), .move (.tmp 6), none⟩,
    ⟨(some 31), .binOp .add 3 (.tmp 30) (.const (.int .i64 1)) 3, none⟩,
    ⟨(some 6), .assign (.tmp 31), none⟩] [0, 4, 5, 6])))
/-- (*loop.example/g01062/spec.l1Cur).postmark11: number 104, params [0, 1] -/
def __spec_l1Cur__postmark11_c : ACode := (.seq (.reg [⟨(some 4), .alloc 26, none⟩] [0, 1, 4])
  (.seq (.reg [⟨(some 7), .move (.tmp 1), none⟩,
    ⟨(some 8), .move (.tmp 0), none⟩,
    ⟨(some 9), .call ⟨.value (.func 93), #[(.tmp 8)], #[87]⟩, none⟩,
    ⟨(some 10), .move (.tmp 0), none⟩,
    ⟨(some 11), .call ⟨.value (.func 90), #[(.tmp 10), (.const (.int .i64 5))], #[87, 3]⟩, none⟩,
    ⟨(some 12), .binOp .add 3 (.const (.int .i64 1)) (.tmp 11) 3, none⟩,
    ⟨(some 13), .move (.tmp 0), none⟩,
    ⟨(some 14), .buildSlice 51 5 #[(0, (.const (.int .i64 0))), (1, (.const (.int .i64 100))), (2, (.const (.int .i64 100))), (3, (.const (.int .i64 200))), (4, (.const (.int .i64 3990)))], none⟩,
    ⟨(some 15), .call ⟨.value (.func 89), #[(.tmp 13), (.tmp 14)], #[87, 51]⟩, none⟩,
    ⟨(some 16), .build 26 #[(0, (.tmp 7)), (1, (.tmp 9)), (2, (.tmp 12)), (3, (.tmp 15))], none⟩,
    ⟨(some 5), .alloc 26, none⟩,
    ⟨none, .store 26 (.tmp 5) (.tmp 16), none⟩] [0, 4, 5])
  (.seq (.regF [⟨(some 17), .fieldAddr 26 (.tmp 5) 3, none⟩]
    [19, 20, 18, 22, 24] [.load 3 (.tmp 17)]
    [⟨(some 19), .move (.tmp 0), none⟩,
    ⟨(some 20), .buildSlice 51 5 #[(0, (.const (.int .i64 0))), (1, (.const (.int .i64 10))), (2, (.const (.int .i64 99))), (3, (.const (.int .i64 100))), (4, (.const (.int .i64 4000)))], none⟩,
    ⟨(some 21), .call ⟨.value (.func 89), #[(.tmp 19), (.tmp 20)], #[87, 51]⟩, none⟩,
    ⟨(some 18), .load 3 (.tmp 17), none⟩,
    ⟨(some 22), .binOp .add 3 (.tmp 18) (.tmp 21) 3, none⟩,
    ⟨(some 23), .call ⟨.value (.func 68), #[(.const (.int .i64 4000)), (.tmp 22)], #[3, 3]⟩, none⟩,
    ⟨(some 24), .fieldAddr 26 (.tmp 5) 4, none⟩,
    ⟨none, .store 3 (.tmp 24) (.tmp 23), none⟩] [0, 4, 5])
  (.seq (.seq (.reg [⟨(some 6), .assign (.const (.int .i64 0)), none⟩] [0, 4, 5, 6])
  (.block 0 (.loop __spec_l1Cur__postmark11_l0)))
  (.seq (.seq (.reg [⟨(some 46), .move (.tmp 0), none⟩,
    ⟨(some 47), .call ⟨.value (.func 90), #[(.tmp 46), (.const (.int .i64 100))], #[87, 3]⟩, none⟩] [0, 4, 5, 47])
  (.block 2 (.seq (.reg [⟨(some 49), .binOp .eql 3 (.tmp 47) (.const (.int .i64 0)) 3, none⟩,
    ⟨(some 48), .assign (.tmp 49), none⟩] [0, 4, 5, 47, 48])
  (.cond (.tmp 48) (.reg [⟨(some 50), .move (.tmp 0), none⟩,
    ⟨(some 51), .buildSlice 51 3 #[(0, (.const (.int .i64 0))), (1, (.const (.int .i64 999))), (2, (.const (.int .i64 1000)))], none⟩,
    ⟨(some 52), .call ⟨.value (.func 89), #[(.tmp 50), (.tmp 51)], #[87, 51]⟩, none⟩,
    ⟨(some 53), .fieldAddr 26 (.tmp 5) 0, none⟩,
    ⟨none, .store 3 (.tmp 53) (.tmp 52), none⟩] [4, 5])
  (.seq (.reg [⟨(some 55), .binOp .eql 3 (.tmp 47) (.const (.int .i64 1)) 3, none⟩,
    ⟨(some 54), .assign (.tmp 55), none⟩] [0, 4, 5, 47, 54])
  (.cond (.tmp 54) (.reg [⟨(some 56), .move (.tmp 0), none⟩,
    ⟨(some 57), .buildSlice 57 3 #[(0, (.const (.string ⟨#[]⟩))), (1, (.const (.string ⟨#[66, 101, 114, 110]⟩))), (2, (.const (.string ⟨#[97, 98, 99, 100, 101, 102, 103, 104, 105, 106, 107]⟩)))], none⟩,
    ⟨(some 58), .call ⟨.value (.func 92), #[(.tmp 56), (.tmp 57)], #[87, 57]⟩, none⟩,
    ⟨(some 59), .fieldAddr 26 (.tmp 5) 1, none⟩,
    ⟨none, .store 9 (.tmp 59) (.tmp 58), none⟩] [4, 5])
  (.seq (.reg [⟨(some 61), .binOp .eql 3 (.tmp 47) (.const (.int .i64 2)) 3, none⟩,
    ⟨(some 60), .assign (.tmp 61), none⟩] [0, 4, 5, 47, 60])
  (.cond (.tmp 60) (.reg [⟨(some 62), .move (.tmp 0), none⟩,
    ⟨(some 63), .buildSlice 51 2 #[(0, (.const (.int .i64 0))), (1, (.const (.int .i64 6)))], none⟩,
    ⟨(some 64), .call ⟨.value (.func 89), #[(.tmp 62), (.tmp 63)], #[87, 51]⟩, none⟩,
    ⟨(some 65), .fieldAddr 26 (.tmp 5) 2, none⟩,
    ⟨none, .store 3 (.tmp 65) (.tmp 64), none⟩] [4, 5])
  (.seq (.reg [⟨(some 67), .binOp .eql 3 (.tmp 47) (.const (.int .i64 3)) 3, none⟩,
    ⟨(some 66), .assign (.tmp 67), none⟩] [0, 4, 5, 47, 66])
  (.cond (.tmp 66) (.reg [⟨(some 68), .move (.tmp 0), none⟩,
    ⟨(some 69), .fieldAddr 26 (.tmp 5) 4, none⟩,
    ⟨(some 70), .load 3 (.tmp 69), none⟩,
    ⟨(some 71), .binOp .add 3 (.tmp 70) (.const (.int .i64 1)) 3, none⟩,
    ⟨(some 72), .buildSlice 51 2 #[(0, (.const (.int .i64 (-1)))), (1, (.tmp 71))], none⟩,
    ⟨(some 73), .call ⟨.value (.func 89), #[(.tmp 68), (.tmp 72)], #[87, 51]⟩, none⟩,
    ⟨(some 74), .fieldAddr 26 (.tmp 5) 3, none⟩,
    ⟨none, .store 3 (.tmp 74) (.tmp 73), none⟩] [4, 5])
  (.seq (.reg [⟨(some 76), .binOp .eql 3 (.tmp 47) (.const (.int .i64 4)) 3, none⟩,
    ⟨(some 75), .assign (.tmp 76), none⟩] [0, 4, 5, 47, 75])
  (.cond (.tmp 75) (.reg [⟨(some 77), .fieldAddr 26 (.tmp 5) 4, none⟩,
    ⟨none, .store 3 (.tmp 77) (.const (.int .i64 4001)), none⟩] [4, 5])
  (.seq (.reg [⟨(some 79), .binOp .eql 3 (.tmp 47) (.const (.int .i64 5)) 3, none⟩,
    ⟨(some 78), .assign (.tmp 79), none⟩] [0, 4, 5, 78])
  (.cond (.tmp 78) (.reg [⟨(some 80), .move (.tmp 0), none⟩,
    ⟨(some 81), .buildSlice 57 4 #[(0, (.const (.string ⟨#[]⟩))), (1, (.const (.string ⟨#[120, 120, 120, 120]⟩))), (2, (.const (.string ⟨#[46, 46, 63, 46]⟩))), (3, (.const (.string ⟨#[46, 46, 46, 46, 46]⟩)))], none⟩,
    ⟨(some 82), .call ⟨.value (.func 92), #[(.tmp 80), (.tmp 81)], #[87, 57]⟩, none⟩,
    ⟨(some 83), .fieldAddr 26 (.tmp 5) 5, none⟩,
    ⟨none, .store 9 (.tmp 83) (.tmp 82), none⟩] [4, 5])
  .skip))))))))))))))
  (.seq (.reg [⟨(some 84), .load 26 (.tmp 5), none⟩,
    ⟨none, .store 26 (.tmp 4) (.tmp 84), none⟩] [4])
  .ret))))))
theorem __spec_l1Cur__postmark11_k : fnOk Tryd.prog (fun i => i == 2) 104 = some (__spec_l1Cur__postmark11_c.strip, 85, [.cell 4 26]) := by kernel_rfl
/-- (*loop.example/g01062/spec.l1Cur).next: number 105, params [0] -/
def __spec_l1Cur__next_c : ACode := (.seq (.reg [⟨(some 2), .assign (.const (.int .i64 0)), none⟩] [0])
  (.seq (.reg [⟨(some 3), .assign (.const (.int .i64 0)), none⟩] [0, 3])
  (.seq (.seq (.regQ [⟨(some 4), .move (.tmp 0), none⟩,
    ⟨(some 5), .nilCheck (.tmp 4), none⟩,
    ⟨(some 6), .fieldAddr 90 (.tmp 5) 1, none⟩,
    ⟨(some 7), .load 3 (.tmp 6), none⟩,
    ⟨(some 8), .move (.tmp 0), none⟩,
    ⟨(some 9), .nilCheck (.tmp 8), none⟩,
    ⟨(some 10), .fieldAddr 90 (.tmp 9) 0, none⟩,
    ⟨(some 11), .load 63 (.tmp 10), none⟩,
    ⟨(some 12), .call ⟨.builtin .len, #[(.tmp 11)], #[63]⟩, none⟩,
    ⟨(some 13), .binOp .lss 3 (.tmp 7) (.tmp 12) 3, none⟩] [0, 3, 13])
  (.cond (.tmp 13) (.regQ [⟨(some 14), .move (.tmp 0), none⟩,
    ⟨(some 15), .nilCheck (.tmp 14), none⟩,
    ⟨(some 16), .fieldAddr 90 (.tmp 15) 0, none⟩,
    ⟨(some 17), .load 63 (.tmp 16), none⟩,
    ⟨(some 18), .move (.tmp 0), none⟩,
    ⟨(some 19), .nilCheck (.tmp 18), none⟩,
    ⟨(some 20), .fieldAddr 90 (.tmp 19) 1, none⟩,
    ⟨(some 21), .load 3 (.tmp 20), none⟩,
    ⟨(some 22), .indexAddr 63 (.tmp 17) (.tmp 21), none⟩,
    ⟨(some 23), .load 5 (.tmp 22), none⟩,
    ⟨(some 24), .convert 5 3 (.tmp 23), none⟩,
    ⟨(some 3), .assign (.tmp 24), none⟩] [0, 3])
  .skip))
  (.seq (.reg [⟨(some 25), .move (.tmp 0), none⟩,
    ⟨(some 26), .nilCheck (.tmp 25), none⟩,
    ⟨(some 27), .fieldAddr 90 (.tmp 26) 1, none⟩,
    ⟨(some 28), .load 3 (.tmp 27), none⟩,
    ⟨(some 29), .binOp .add 3 (.tmp 28) (.const (.int .i64 1)) 3, none⟩,
    ⟨(some 30), .nilCheck (.tmp 25), none⟩,
    ⟨(some 31), .fieldAddr 90 (.tmp 30) 1, none⟩,
    ⟨none, .store 3 (.tmp 31) (.tmp 29), none⟩] [0, 3])
  (.seq (.reg [⟨(some 32), .move (.tmp 0), none⟩,
    ⟨(some 33), .move (.tmp 0), none⟩,
    ⟨(some 34), .nilCheck (.tmp 33), none⟩,
    ⟨(some 35), .fieldAddr 90 (.tmp 34) 2, none⟩,
    ⟨(some 36), .load 88 (.tmp 35), none⟩,
    ⟨(some 37), .binOp .mul 88 (.tmp 36) (.const (.int .u64 6364136223846793005)) 88, none⟩,
    ⟨(some 38), .move (.tmp 3), none⟩,
    ⟨(some 39), .convert 3 88 (.tmp 38), none⟩,
    ⟨(some 40), .binOp .add 88 (.tmp 37) (.tmp 39) 88, none⟩,
    ⟨(some 41), .binOp .add 88 (.tmp 40) (.const (.int .u64 381907)) 88, none⟩,
    ⟨(some 42), .nilCheck (.tmp 32), none⟩,
    ⟨(some 43), .fieldAddr 90 (.tmp 42) 2, none⟩,
    ⟨none, .store 88 (.tmp 43) (.tmp 41), none⟩] [0, 3])
  (.seq (.seq (.regQ [⟨(some 44), .move (.tmp 0), none⟩,
    ⟨(some 45), .nilCheck (.tmp 44), none⟩,
    ⟨(some 46), .fieldAddr 90 (.tmp 45) 1, none⟩,
    ⟨(some 47), .load 3 (.tmp 46), none⟩,
    ⟨(some 48), .move (.tmp 0), none⟩,
    ⟨(some 49), .nilCheck (.tmp 48), none⟩,
    ⟨(some 50), .fieldAddr 90 (.tmp 49) 0, none⟩,
    ⟨(some 51), .load 63 (.tmp 50), none⟩,
    ⟨(some 52), .call ⟨.builtin .len, #[(.tmp 51)], #[63]⟩, none⟩,
    ⟨(some 53), .binOp .leq 3 (.tmp 47) (.tmp 52) 3, none⟩] [0, 3, 53])
  (.cond (.tmp 53) (.seq (.reg [⟨(some 54), .move (.tmp 3), none⟩,
    ⟨(some 2), .assign (.tmp 54), none⟩] [2])
  .ret)
  .skip))
  (.seq (.reg [⟨(some 55), .move (.tmp 0), none⟩,
    ⟨(some 56), .nilCheck (.tmp 55), none⟩,
    ⟨(some 57), .fieldAddr 90 (.tmp 56) 2, none⟩,
    ⟨(some 58), .load 88 (.tmp 57), none⟩,
    ⟨(some 59), .binOp .shr 88 (.tmp 58) (.const (.int .u64 40)) 102, none⟩,
    ⟨(some 60), .binOp .and 88 (.tmp 59) (.const (.int .u64 255)) 88, none⟩,
    ⟨(some 61), .convert 88 3 (.tmp 60), none⟩,
    ⟨(some 2), .assign (.tmp 61), none⟩] [2])
  .ret)))))))
theorem __spec_l1Cur__next_k : fnOk Tryd.prog (fun _ => false) 105 = some (__spec_l1Cur__next_c.strip, 62, [.tmp 2]) := by kernel_rfl
end Go.Proofs.YtnehhdcaknppnaaDoor
