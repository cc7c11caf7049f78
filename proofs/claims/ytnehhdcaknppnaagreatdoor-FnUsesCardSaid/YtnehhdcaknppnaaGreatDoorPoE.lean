/- Printed by a program of ours: the functions' abstract code and facts on their types. -/
import Derived.Test.YtnehhdcaknppnaaGreatDoorPoC
set_option maxRecDepth 8000
namespace Go.Proofs.YtnehhdcaknppnaaGreatDoor
open Go Go.RowKit
@[simp] theorem dk_47 : dK Tryz.prog 47 = some (.int .u64) := by kernel_rfl
@[simp] theorem ty_47 : tyK Tryz.prog 47 = some .cell := by kernel_rfl
@[simp] theorem zero_47 : zeroK Tryz.prog 47 = some [.int .u64 0] := by kernel_rfl
@[simp] theorem ty_49 : tyK Tryz.prog 49 = some (.obj 3) := by kernel_rfl
@[simp] theorem fld_49_0 : fldK Tryz.prog 49 0 = some 0 := by kernel_rfl
@[simp] theorem fld_49_1 : fldK Tryz.prog 49 1 = some 1 := by kernel_rfl
@[simp] theorem fld_49_2 : fldK Tryz.prog 49 2 = some 2 := by kernel_rfl
@[simp] theorem pl_49 : plK Tryz.prog 49 = some (some [(0, 1), (1, 1), (2, 1)]) := by kernel_rfl
@[simp] theorem zero_49 : zeroK Tryz.prog 49 = some [.nils, .int .i64 0, .int .u64 0] := by kernel_rfl
@[simp] theorem sl_70 : slK Tryz.prog 70 = some (3, 1, 8) := by kernel_rfl
@[simp] theorem dk_70 : dK Tryz.prog 70 = some .slc := by kernel_rfl
@[simp] theorem ty_70 : tyK Tryz.prog 70 = some .cell := by kernel_rfl
@[simp] theorem zero_70 : zeroK Tryz.prog 70 = some [.nils] := by kernel_rfl
/-- loop.example/g01062/spec.DrawExtendUse: number 5, params [0] -/
def spec_DrawExtendUse_c : ACode := (.seq (.reg [⟨(some 2), .assign (.const (.slice none 0 0)), none⟩,
    ⟨(some 3), .assign (.const (.int .i64 0)), none⟩,
    ⟨(some 4), .assign (.const (.int .i64 0)), none⟩] [0])
  (.seq (.reg [⟨(some 7), .move (.tmp 0), none⟩,
    ⟨(some 8), .build 49 #[(0, (.tmp 7))], none⟩,
    ⟨(some 9), .box 49 (.tmp 8), none⟩,
    ⟨(some 5), .assign (.tmp 9), none⟩] [5])
  (.seq (.reg [⟨(some 10), .move (.tmp 5), none⟩,
    ⟨(some 11), .call ⟨.value (.func 20), #[(.tmp 10)], #[46]⟩, none⟩,
    ⟨(some 6), .assign (.tmp 11), none⟩] [5, 6])
  (.seq (.reg [⟨(some 12), .move (.tmp 6), none⟩,
    ⟨(some 13), .move (.tmp 5), none⟩,
    ⟨(some 14), .move (.tmp 6), none⟩,
    ⟨(some 15), .call ⟨.value (.func 21), #[(.tmp 13), (.tmp 14)], #[46, 24]⟩, none⟩,
    ⟨(some 16), .move (.tmp 5), none⟩,
    ⟨(some 17), .move (.tmp 6), none⟩,
    ⟨(some 18), .call ⟨.value (.func 22), #[(.tmp 16), (.tmp 17)], #[46, 24]⟩, none⟩,
    ⟨(some 2), .assign (.tmp 12), none⟩,
    ⟨(some 3), .assign (.tmp 15), none⟩,
    ⟨(some 4), .assign (.tmp 18), none⟩] [2, 3, 4])
  .ret))))
theorem spec_DrawExtendUse_k : fnOk Tryz.prog (fun _ => false) 5 = some (spec_DrawExtendUse_c.strip, 19, [.tmp 2, .tmp 3, .tmp 4]) := by kernel_rfl
/-- loop.example/g01062/spec.DrawGapBetween: number 11, params [0] -/
def spec_DrawGapBetween_c : ACode := (.seq (.reg [⟨(some 2), .assign (.const (.slice none 0 0)), none⟩,
    ⟨(some 3), .assign (.const (.string ⟨#[]⟩)), none⟩] [0])
  (.seq (.reg [⟨(some 4), .move (.tmp 0), none⟩,
    ⟨(some 5), .call ⟨.value (.func 35), #[(.tmp 4)], #[22]⟩, none⟩,
    ⟨(some 6), .extract (.tmp 5) 0, none⟩,
    ⟨(some 7), .extract (.tmp 5) 1, none⟩,
    ⟨(some 2), .assign (.tmp 6), none⟩,
    ⟨(some 3), .assign (.tmp 7), none⟩] [2, 3])
  .ret))
theorem spec_DrawGapBetween_k : fnOk Tryz.prog (fun _ => false) 11 = some (spec_DrawGapBetween_c.strip, 8, [.tmp 2, .tmp 3]) := by kernel_rfl
/-- loop.example/g01062/spec.DrawTownsOn: number 14, params [0] -/
def spec_DrawTownsOn_c : ACode := (.seq (.reg [⟨(some 2), .assign (.const (.slice none 0 0)), none⟩,
    ⟨(some 3), .assign (.const (.int .i64 0)), none⟩] [0])
  (.seq (.reg [⟨(some 6), .move (.tmp 0), none⟩,
    ⟨(some 7), .build 49 #[(0, (.tmp 6))], none⟩,
    ⟨(some 8), .box 49 (.tmp 7), none⟩,
    ⟨(some 4), .assign (.tmp 8), none⟩] [4])
  (.seq (.reg [⟨(some 9), .move (.tmp 4), none⟩,
    ⟨(some 10), .call ⟨.value (.func 20), #[(.tmp 9)], #[46]⟩, none⟩,
    ⟨(some 5), .assign (.tmp 10), none⟩] [4, 5])
  (.seq (.reg [⟨(some 11), .move (.tmp 5), none⟩,
    ⟨(some 12), .move (.tmp 4), none⟩,
    ⟨(some 13), .move (.tmp 5), none⟩,
    ⟨(some 14), .call ⟨.value (.func 22), #[(.tmp 12), (.tmp 13)], #[46, 24]⟩, none⟩,
    ⟨(some 2), .assign (.tmp 11), none⟩,
    ⟨(some 3), .assign (.tmp 14), none⟩] [2, 3])
  .ret))))
theorem spec_DrawTownsOn_k : fnOk Tryz.prog (fun _ => false) 14 = some (spec_DrawTownsOn_c.strip, 15, [.tmp 2, .tmp 3]) := by kernel_rfl
/-- loop.example/g01062/spec.DrawPostmarkText: number 16, params [0] -/
def spec_DrawPostmarkText_c : ACode := (.seq (.reg [⟨(some 2), .alloc 34, none⟩] [0, 2])
  (.seq (.reg [⟨(some 3), .move (.tmp 0), none⟩,
    ⟨(some 4), .call ⟨.value (.func 39), #[(.tmp 3)], #[22]⟩, none⟩,
    ⟨none, .store 34 (.tmp 2) (.tmp 4), none⟩] [2])
  .ret))
theorem spec_DrawPostmarkText_k : fnOk Tryz.prog (fun _ => false) 16 = some (spec_DrawPostmarkText_c.strip, 5, [.cell 2 34]) := by kernel_rfl
/-- head: [0, 3, 4, 5] -/
def __spec_l1Cur__postmarks11_l0 : ACode := (.seq (.seq (.reg [⟨(some 10), .move (.tmp 5), none⟩,
    ⟨(some 11), .binOp .gtr 3 (.tmp 10) (.const (.int .i64 0)) 3, none⟩] [0, 3, 4, 5, 11])
  (.cond (.tmp 11) .skip
  (.exit 0)))
  (.seq (.block 1 (.seq (.reg [⟨(some 14), .move (.tmp 4), none⟩,
    ⟨(some 15), .binOp .add 3 (.tmp 14) (.const (.int .i64 1)) 3, none⟩,
    ⟨(some 16), .move (.tmp 0), none⟩,
    ⟨(some 17), .call ⟨.value (.func 46), #[(.tmp 16), (.const (.int .i64 3))], #[46, 3]⟩, none⟩,
    ⟨(some 18), .binOp .add 3 (.tmp 15) (.tmp 17) 3, none⟩,
    ⟨(some 19), .move (.tmp 0), none⟩,
    ⟨(some 20), .call ⟨.value (.func 46), #[(.tmp 19), (.const (.int .i64 150))], #[46, 3]⟩, none⟩,
    ⟨(some 21), .binOp .quo 3 (.tmp 20) (.const (.int .i64 149)) 3, none⟩,
    ⟨(some 22), .binOp .sub 3 (.tmp 18) (.tmp 21) 3, none⟩,
    ⟨(some 4), .assign (.tmp 22), none⟩] [0, 3, 4, 5])
  (.reg [⟨(some 23), .move (.tmp 3), none⟩,
    ⟨(some 24), .move (.tmp 0), none⟩,
    ⟨(some 25), .move (.tmp 4), none⟩,
    ⟨(some 26), .call ⟨.value (.func 47), #[(.tmp 24), (.tmp 25)], #[46, 3]⟩, none⟩,
    ⟨(some 27), .buildSlice 24 1 #[(0, (.tmp 26))], none⟩,
    ⟨(some 28), .call ⟨.builtin .append, #[(.tmp 23), (.tmp 27)], #[24, 24]⟩, none⟩,
    ⟨(some 3), .assign (.tmp 28), none⟩] [0, 3, 4, 5])))
  (.reg [⟨(some 12), .move (.tmp 5), none⟩,
    ⟨(some 13), .binOp .sub 3 (.tmp 12) (.const (.int .i64 1)) 3, none⟩,
    ⟨(some 5), .assign (.tmp 13), none⟩] [0, 3, 4, 5])))
/-- head: [0, 3, 6] -/
def __spec_l1Cur__postmarks11_l1 : ACode := (.seq (.seq (.reg [⟨(some 32), .move (.tmp 6), none⟩,
    ⟨(some 33), .move (.tmp 0), none⟩,
    ⟨(some 34), .call ⟨.value (.func 46), #[(.tmp 33), (.const (.int .i64 2))], #[46, 3]⟩, none⟩,
    ⟨(some 35), .binOp .add 3 (.const (.int .i64 12)) (.tmp 34) 3, none⟩,
    ⟨(some 36), .binOp .lss 3 (.tmp 32) (.tmp 35) 3, none⟩] [0, 3, 6, 36])
  (.cond (.tmp 36) .skip
  (.exit 2)))
  (.seq (.block 3 (.reg [⟨(some 39), .move (.tmp 3), none⟩,
    ⟨(some 40), .move (.tmp 6), none⟩,
    ⟨(some 41), .binOp .add 3 (.tmp 40) (.const (.int .i64 1)) 3, none⟩,
    ⟨(some 42), .move (.tmp 6), none⟩,
    ⟨(some 43), .binOp .mul 3 (.const (.int .i64 20)) (.tmp 42) 3, none⟩,
    ⟨(some 44), .move (.tmp 6), none⟩,
    ⟨(some 45), .binOp .mul 3 (.const (.int .i64 20)) (.tmp 44) 3, none⟩,
    ⟨(some 46), .binOp .add 3 (.tmp 45) (.const (.int .i64 10)) 3, none⟩,
    ⟨(some 47), .build 34 #[(0, (.tmp 41)), (1, (.const (.string ⟨#[98, 101, 114, 110]⟩))), (2, (.const (.int .i64 1))), (3, (.tmp 43)), (4, (.tmp 46)), (5, (.const (.string ⟨#[46, 46, 46, 46]⟩)))], none⟩,
    ⟨(some 48), .buildSlice 24 1 #[(0, (.tmp 47))], none⟩,
    ⟨(some 49), .call ⟨.builtin .append, #[(.tmp 39), (.tmp 48)], #[24, 24]⟩, none⟩,
    ⟨(some 3), .assign (.tmp 49), none⟩] [0, 3, 6]))
  (.reg [⟨(some 37), .move (.tmp 6), none⟩,
    ⟨(some 38), .binOp .add 3 (.tmp 37) (.const (.int .i64 1)) 3, none⟩,
    ⟨(some 6), .assign (.tmp 38), none⟩] [0, 3, 6])))
/-- (*loop.example/g01062/spec.l1Cur).postmarks11: number 20, params [0] -/
def __spec_l1Cur__postmarks11_c : ACode := (.seq (.reg [⟨(some 2), .assign (.const (.slice none 0 0)), none⟩] [0])
  (.seq (.reg [⟨(some 7), .buildSlice 24 0 #[], none⟩,
    ⟨(some 3), .assign (.tmp 7), none⟩] [0, 3])
  (.seq (.reg [⟨(some 4), .assign (.const (.int .i64 0)), none⟩] [0, 3, 4])
  (.seq (.seq (.reg [⟨(some 8), .move (.tmp 0), none⟩,
    ⟨(some 9), .call ⟨.value (.func 46), #[(.tmp 8), (.const (.int .i64 8))], #[46, 3]⟩, none⟩,
    ⟨(some 5), .assign (.tmp 9), none⟩] [0, 3, 4, 5])
  (.block 0 (.loop __spec_l1Cur__postmarks11_l0)))
  (.seq (.seq (.reg [⟨(some 29), .move (.tmp 0), none⟩,
    ⟨(some 30), .call ⟨.value (.func 48), #[(.tmp 29), (.const (.int .i64 24))], #[46, 3]⟩, none⟩] [0, 3, 30])
  (.cond (.tmp 30) (.seq (.reg [⟨(some 31), .buildSlice 24 0 #[], none⟩,
    ⟨(some 3), .assign (.tmp 31), none⟩] [0, 3])
  (.seq (.reg [⟨(some 6), .assign (.const (.int .i64 0)), none⟩] [0, 3, 6])
  (.block 2 (.loop __spec_l1Cur__postmarks11_l1))))
  .skip))
  (.seq (.reg [⟨(some 50), .move (.tmp 3), none⟩,
    ⟨(some 2), .assign (.tmp 50), none⟩] [2])
  .ret))))))
theorem __spec_l1Cur__postmarks11_k : fnOk Tryz.prog (fun _ => false) 20 = some (__spec_l1Cur__postmarks11_c.strip, 51, [.tmp 2]) := by kernel_rfl
/-- (*loop.example/g01062/spec.l1Cur).postmarkId: number 21, params [0, 1] -/
def __spec_l1Cur__postmarkId_c : ACode := (.seq (.reg [⟨(some 4), .assign (.const (.int .i64 0)), none⟩] [0, 1])
  (.seq (.seq (.reg [⟨(some 5), .move (.tmp 1), none⟩,
    ⟨(some 6), .call ⟨.builtin .len, #[(.tmp 5)], #[24]⟩, none⟩,
    ⟨(some 7), .binOp .eql 3 (.tmp 6) (.const (.int .i64 0)) 3, none⟩,
    ⟨(some 8), .move (.tmp 7), none⟩,
    ⟨(some 9), .move (.tmp 0), (some (some 8, false))⟩,
    ⟨(some 10), .call ⟨.value (.func 48), #[(.tmp 9), (.const (.int .i64 10))], #[46, 3]⟩, (some (some 8, false))⟩,
    ⟨(some 11), .pick (.tmp 8) (.const (.bool true)) (.tmp 10), none⟩] [0, 1, 11])
  (.cond (.tmp 11) (.seq (.reg [⟨(some 12), .move (.tmp 0), none⟩,
    ⟨(some 13), .buildSlice 70 3 #[(0, (.const (.int .i64 0))), (1, (.const (.int .i64 1))), (2, (.const (.int .i64 500)))], none⟩,
    ⟨(some 14), .call ⟨.value (.func 49), #[(.tmp 12), (.tmp 13)], #[46, 70]⟩, none⟩,
    ⟨(some 4), .assign (.tmp 14), none⟩] [4])
  .ret)
  .skip))
  (.seq (.reg [⟨(some 15), .move (.tmp 1), none⟩,
    ⟨(some 16), .move (.tmp 0), none⟩,
    ⟨(some 17), .move (.tmp 1), none⟩,
    ⟨(some 18), .call ⟨.builtin .len, #[(.tmp 17)], #[24]⟩, none⟩,
    ⟨(some 19), .call ⟨.value (.func 46), #[(.tmp 16), (.tmp 18)], #[46, 3]⟩, none⟩,
    ⟨(some 20), .indexAddr 24 (.tmp 15) (.tmp 19), none⟩,
    ⟨(some 21), .fieldAddr 34 (.tmp 20) 0, none⟩,
    ⟨(some 22), .load 3 (.tmp 21), none⟩,
    ⟨(some 4), .assign (.tmp 22), none⟩] [4])
  .ret)))
theorem __spec_l1Cur__postmarkId_k : fnOk Tryz.prog (fun _ => false) 21 = some (__spec_l1Cur__postmarkId_c.strip, 23, [.tmp 4]) := by kernel_rfl
/-- (*loop.example/g01062/spec.l1Cur).day11: number 22, params [0, 1] -/
def __spec_l1Cur__day11_c : ACode := (.seq (.reg [⟨(some 4), .assign (.const (.int .i64 0)), none⟩] [0, 1])
  (.seq (.seq (.reg [⟨(some 6), .move (.tmp 1), none⟩,
    ⟨(some 7), .call ⟨.builtin .len, #[(.tmp 6)], #[24]⟩, none⟩,
    ⟨(some 8), .binOp .eql 3 (.tmp 7) (.const (.int .i64 0)) 3, none⟩,
    ⟨(some 9), .move (.tmp 8), none⟩,
    ⟨(some 10), .move (.tmp 0), (some (some 9, false))⟩,
    ⟨(some 11), .call ⟨.value (.func 48), #[(.tmp 10), (.const (.int .i64 5))], #[46, 3]⟩, (some (some 9, false))⟩,
    ⟨(some 12), .pick (.tmp 9) (.const (.bool true)) (.tmp 11), none⟩] [0, 1, 12])
  (.cond (.tmp 12) (.seq (.reg [⟨(some 13), .move (.tmp 0), none⟩,
    ⟨(some 14), .buildSlice 70 5 #[(0, (.const (.int .i64 0))), (1, (.const (.int .i64 150))), (2, (.const (.int .i64 4000))), (3, (.const (.int .i64 (-1)))), (4, (.const (.int .i64 4001)))], none⟩,
    ⟨(some 15), .move (.tmp 0), none⟩,
    ⟨(some 16), .call ⟨.value (.func 46), #[(.tmp 15), (.const (.int .i64 24))], #[46, 3]⟩, none⟩,
    ⟨(some 17), .binOp .quo 3 (.tmp 16) (.const (.int .i64 12)) 3, none⟩,
    ⟨(some 18), .binOp .add 3 (.const (.int .i64 4)) (.tmp 17) 3, none⟩,
    ⟨(some 19), .slice 70 (.tmp 14) none (some (.tmp 18)) none, none⟩,
    ⟨(some 20), .call ⟨.value (.func 49), #[(.tmp 13), (.tmp 19)], #[46, 70]⟩, none⟩,
    ⟨(some 4), .assign (.tmp 20), none⟩] [4])
  .ret)
  .skip))
  (.seq (.reg [⟨(some 21), .move (.tmp 1), none⟩,
    ⟨(some 22), .move (.tmp 0), none⟩,
    ⟨(some 23), .move (.tmp 1), none⟩,
    ⟨(some 24), .call ⟨.builtin .len, #[(.tmp 23)], #[24]⟩, none⟩,
    ⟨(some 25), .call ⟨.value (.func 46), #[(.tmp 22), (.tmp 24)], #[46, 3]⟩, none⟩,
    ⟨(some 26), .indexAddr 24 (.tmp 21) (.tmp 25), none⟩,
    ⟨(some 27), .load 34 (.tmp 26), none⟩,
    ⟨(some 5), .alloc 34, none⟩,
    ⟨none, .store 34 (.tmp 5) (.tmp 27), none⟩] [0, 5])
  (.seq (.reg [⟨(some 28), .move (.tmp 0), none⟩,
    ⟨(some 29), .fieldAddr 34 (.tmp 5) 3, none⟩,
    ⟨(some 30), .load 3 (.tmp 29), none⟩,
    ⟨(some 31), .fieldAddr 34 (.tmp 5) 3, none⟩,
    ⟨(some 32), .load 3 (.tmp 31), none⟩,
    ⟨(some 33), .binOp .sub 3 (.tmp 32) (.const (.int .i64 1)) 3, none⟩,
    ⟨(some 34), .fieldAddr 34 (.tmp 5) 4, none⟩,
    ⟨(some 35), .load 3 (.tmp 34), none⟩,
    ⟨(some 36), .fieldAddr 34 (.tmp 5) 4, none⟩,
    ⟨(some 37), .load 3 (.tmp 36), none⟩,
    ⟨(some 38), .binOp .add 3 (.tmp 37) (.const (.int .i64 1)) 3, none⟩,
    ⟨(some 39), .fieldAddr 34 (.tmp 5) 3, none⟩,
    ⟨(some 40), .load 3 (.tmp 39), none⟩,
    ⟨(some 41), .binOp .add 3 (.tmp 40) (.const (.int .i64 5)) 3, none⟩,
    ⟨(some 42), .buildSlice 70 5 #[(0, (.tmp 30)), (1, (.tmp 33)), (2, (.tmp 35)), (3, (.tmp 38)), (4, (.tmp 41))], none⟩,
    ⟨(some 43), .call ⟨.value (.func 49), #[(.tmp 28), (.tmp 42)], #[46, 70]⟩, none⟩,
    ⟨(some 44), .call ⟨.value (.func 30), #[(.const (.int .i64 0)), (.tmp 43)], #[3, 3]⟩, none⟩,
    ⟨(some 45), .call ⟨.value (.func 31), #[(.const (.int .i64 4000)), (.tmp 44)], #[3, 3]⟩, none⟩,
    ⟨(some 4), .assign (.tmp 45), none⟩] [4])
  .ret))))
theorem __spec_l1Cur__day11_k : fnOk Tryz.prog (fun _ => false) 22 = some (__spec_l1Cur__day11_c.strip, 46, [.tmp 4]) := by kernel_rfl
/-- loop.example/g01062/spec.DrawLatestUse: number 35, params [0] -/
def spec_DrawLatestUse_c : ACode := (.seq (.reg [⟨(some 2), .assign (.const (.slice none 0 0)), none⟩,
    ⟨(some 3), .assign (.const (.string ⟨#[]⟩)), none⟩] [0])
  (.seq (.reg [⟨(some 6), .move (.tmp 0), none⟩,
    ⟨(some 7), .build 49 #[(0, (.tmp 6))], none⟩,
    ⟨(some 8), .box 49 (.tmp 7), none⟩,
    ⟨(some 4), .assign (.tmp 8), none⟩] [4])
  (.seq (.reg [⟨(some 9), .move (.tmp 4), none⟩,
    ⟨(some 10), .call ⟨.value (.func 20), #[(.tmp 9)], #[46]⟩, none⟩,
    ⟨(some 5), .assign (.tmp 10), none⟩] [4, 5])
  (.seq (.seq (.reg [⟨(some 11), .move (.tmp 4), none⟩,
    ⟨(some 12), .call ⟨.value (.func 48), #[(.tmp 11), (.const (.int .i64 10))], #[46, 3]⟩, none⟩] [4, 5, 12])
  (.cond (.tmp 12) (.seq (.reg [⟨(some 13), .move (.tmp 5), none⟩,
    ⟨(some 14), .move (.tmp 4), none⟩,
    ⟨(some 15), .buildSlice 30 3 #[(0, (.const (.string ⟨#[122, 117, 103]⟩))), (1, (.const (.string ⟨#[]⟩))), (2, (.const (.string ⟨#[66, 101, 114, 110]⟩)))], none⟩,
    ⟨(some 16), .call ⟨.value (.func 55), #[(.tmp 14), (.tmp 15)], #[46, 30]⟩, none⟩,
    ⟨(some 2), .assign (.tmp 13), none⟩,
    ⟨(some 3), .assign (.tmp 16), none⟩] [2, 3])
  .ret)
  .skip))
  (.seq (.reg [⟨(some 17), .move (.tmp 5), none⟩,
    ⟨(some 18), .move (.tmp 4), none⟩,
    ⟨(some 19), .call ⟨.value (.func 56), #[(.tmp 18)], #[46]⟩, none⟩,
    ⟨(some 2), .assign (.tmp 17), none⟩,
    ⟨(some 3), .assign (.tmp 19), none⟩] [2, 3])
  .ret)))))
theorem spec_DrawLatestUse_k : fnOk Tryz.prog (fun _ => false) 35 = some (spec_DrawLatestUse_c.strip, 20, [.tmp 2, .tmp 3]) := by kernel_rfl
/-- loop.example/g01062/spec.DrawIsPostmark: number 39, params [0] -/
def spec_DrawIsPostmark_c : ACode := (.seq (.reg [⟨(some 2), .alloc 34, none⟩] [0, 2])
  (.seq (.reg [⟨(some 4), .move (.tmp 0), none⟩,
    ⟨(some 5), .build 49 #[(0, (.tmp 4))], none⟩,
    ⟨(some 6), .box 49 (.tmp 5), none⟩,
    ⟨(some 3), .assign (.tmp 6), none⟩] [2, 3])
  (.seq (.reg [⟨(some 7), .move (.tmp 3), none⟩,
    ⟨(some 8), .move (.tmp 3), none⟩,
    ⟨(some 9), .buildSlice 70 3 #[(0, (.const (.int .i64 1))), (1, (.const (.int .i64 42))), (2, (.const (.int .i64 999)))], none⟩,
    ⟨(some 10), .call ⟨.value (.func 49), #[(.tmp 8), (.tmp 9)], #[46, 70]⟩, none⟩,
    ⟨(some 11), .call ⟨.value (.func 47), #[(.tmp 7), (.tmp 10)], #[46, 3]⟩, none⟩,
    ⟨none, .store 34 (.tmp 2) (.tmp 11), none⟩] [2])
  .ret)))
theorem spec_DrawIsPostmark_k : fnOk Tryz.prog (fun _ => false) 39 = some (spec_DrawIsPostmark_c.strip, 12, [.cell 2 34]) := by kernel_rfl
/-- (*loop.example/g01062/spec.l1Cur).pick: number 46, params [0, 1] -/
def __spec_l1Cur__pick_c : ACode := (.seq (.reg [⟨(some 4), .assign (.const (.int .i64 0)), none⟩] [0, 1])
  (.seq (.seq (.reg [⟨(some 6), .move (.tmp 1), none⟩,
    ⟨(some 7), .binOp .leq 3 (.tmp 6) (.const (.int .i64 1)) 3, none⟩] [0, 1, 7])
  (.cond (.tmp 7) (.seq (.reg [⟨(some 4), .assign (.const (.int .i64 0)), none⟩] [4])
  .ret)
  .skip))
  (.seq (.reg [⟨(some 8), .move (.tmp 0), none⟩,
    ⟨(some 9), .call ⟨.value (.func 60), #[(.tmp 8)], #[46]⟩, none⟩,
    ⟨(some 5), .assign (.tmp 9), none⟩] [0, 1, 5])
  (.seq (.seq (.reg [⟨(some 10), .move (.tmp 1), none⟩,
    ⟨(some 11), .binOp .gtr 3 (.tmp 10) (.const (.int .i64 200)) 3, none⟩] [0, 1, 5, 11])
  (.cond (.tmp 11) (.reg [⟨(some 12), .move (.tmp 5), none⟩,
    ⟨(some 13), .binOp .mul 3 (.tmp 12) (.const (.int .i64 256)) 3, none⟩,
    ⟨(some 14), .move (.tmp 0), none⟩,
    ⟨(some 15), .call ⟨.value (.func 60), #[(.tmp 14)], #[46]⟩, none⟩,
    ⟨(some 16), .binOp .add 3 (.tmp 13) (.tmp 15) 3, none⟩,
    ⟨(some 5), .assign (.tmp 16), none⟩] [1, 5])
  .skip))
  (.seq (.reg [⟨(some 17), .move (.tmp 5), none⟩,
    ⟨(some 18), .move (.tmp 1), none⟩,
    ⟨(some 19), .binOp .rem 3 (.tmp 17) (.tmp 18) 3, none⟩,
    ⟨(some 4), .assign (.tmp 19), none⟩] [4])
  .ret)))))
theorem __spec_l1Cur__pick_k : fnOk Tryz.prog (fun _ => false) 46 = some (__spec_l1Cur__pick_c.strip, 20, [.tmp 4]) := by kernel_rfl
/-- head: [0, 4, 5, 6] -/
def __spec_l1Cur__postmark11_l0 : ACode := (.seq (.seq (.reg [⟨(some 25), .move (.tmp 6), none⟩,
    ⟨(some 26), .fieldAddr 34 (.tmp 5) 1, none⟩,
    ⟨(some 27), .load 9 (.tmp 26), none⟩,
    ⟨(some 28), .call ⟨.builtin .len, #[(.tmp 27)], #[9]⟩, none⟩,
    ⟨(some 29), .binOp .lss 3 (.tmp 25) (.tmp 28) 3, none⟩] [0, 4, 5, 6, 29])
  (.cond (.tmp 29) .skip
  (.exit 0)))
  (.seq (.block 1 (.seq (.reg [⟨(some 32), .move (.tmp 6), none⟩,
    ⟨(some 33), .binOp .gtr 3 (.tmp 32) (.const (.int .i64 0)) 3, none⟩,
    ⟨(some 34), .move (.tmp 33), none⟩,
    ⟨(some 35), .move (.tmp 0), (some (some 34, true))⟩,
    ⟨(some 36), .call ⟨.value (.func 48), #[(.tmp 35), (.const (.int .i64 4))], #[46, 3]⟩, (some (some 34, true))⟩,
    ⟨(some 37), .pick (.tmp 34) (.tmp 36) (.const (.bool false)), none⟩] [0, 4, 5, 6, 37])
  (.cond (.tmp 37) (.reg [⟨(some 38), .fieldAddr 34 (.tmp 5) 5, none⟩,
    ⟨(some 39), .load 9 (.tmp 38), none⟩,
    ⟨(some 40), .binOp .add 9 (.tmp 39) (.const (.string ⟨#[120]⟩)) 9, none⟩,
    ⟨(some 41), .fieldAddr 34 (.tmp 5) 5, none⟩,
    ⟨none, .store 9 (.tmp 41) (.tmp 40), none⟩] [0, 4, 5, 6])
  (.reg [⟨(some 42), .fieldAddr 34 (.tmp 5) 5, none⟩,
    ⟨(some 43), .load 9 (.tmp 42), none⟩,
    ⟨(some 44), .binOp .add 9 (.tmp 43) (.const (.string ⟨#[46]⟩)) 9, none⟩,
    ⟨(some 45), .fieldAddr 34 (.tmp 5) 5, none⟩,
    ⟨none, .store 9 (.tmp 45) (.tmp 44), none⟩] [0, 4, 5, 6]))))
  (.reg [⟨(some 30), .move (.tmp 6), none⟩,
    ⟨(some 31), .binOp .add 3 (.tmp 30) (.const (.int .i64 1)) 3, none⟩,
    ⟨(some 6), .assign (.tmp 31), none⟩] [0, 4, 5, 6])))
/-- (*loop.example/g01062/spec.l1Cur).postmark11: number 47, params [0, 1] -/
def __spec_l1Cur__postmark11_c : ACode := (.seq (.reg [⟨(some 4), .alloc 34, none⟩] [0, 1, 4])
  (.seq (.reg [⟨(some 7), .move (.tmp 1), none⟩,
    ⟨(some 8), .move (.tmp 0), none⟩,
    ⟨(some 9), .call ⟨.value (.func 56), #[(.tmp 8)], #[46]⟩, none⟩,
    ⟨(some 10), .move (.tmp 0), none⟩,
    ⟨(some 11), .call ⟨.value (.func 46), #[(.tmp 10), (.const (.int .i64 5))], #[46, 3]⟩, none⟩,
    ⟨(some 12), .binOp .add 3 (.const (.int .i64 1)) (.tmp 11) 3, none⟩,
    ⟨(some 13), .move (.tmp 0), none⟩,
    ⟨(some 14), .buildSlice 70 5 #[(0, (.const (.int .i64 0))), (1, (.const (.int .i64 100))), (2, (.const (.int .i64 100))), (3, (.const (.int .i64 200))), (4, (.const (.int .i64 3990)))], none⟩,
    ⟨(some 15), .call ⟨.value (.func 49), #[(.tmp 13), (.tmp 14)], #[46, 70]⟩, none⟩,
    ⟨(some 16), .build 34 #[(0, (.tmp 7)), (1, (.tmp 9)), (2, (.tmp 12)), (3, (.tmp 15))], none⟩,
    ⟨(some 5), .alloc 34, none⟩,
    ⟨none, .store 34 (.tmp 5) (.tmp 16), none⟩] [0, 4, 5])
  (.seq (.regF [⟨(some 17), .fieldAddr 34 (.tmp 5) 3, none⟩]
    [19, 20, 18, 22, 24] [.load 3 (.tmp 17)]
    [⟨(some 19), .move (.tmp 0), none⟩,
    ⟨(some 20), .buildSlice 70 5 #[(0, (.const (.int .i64 0))), (1, (.const (.int .i64 10))), (2, (.const (.int .i64 99))), (3, (.const (.int .i64 100))), (4, (.const (.int .i64 4000)))], none⟩,
    ⟨(some 21), .call ⟨.value (.func 49), #[(.tmp 19), (.tmp 20)], #[46, 70]⟩, none⟩,
    ⟨(some 18), .load 3 (.tmp 17), none⟩,
    ⟨(some 22), .binOp .add 3 (.tmp 18) (.tmp 21) 3, none⟩,
    ⟨(some 23), .call ⟨.value (.func 31), #[(.const (.int .i64 4000)), (.tmp 22)], #[3, 3]⟩, none⟩,
    ⟨(some 24), .fieldAddr 34 (.tmp 5) 4, none⟩,
    ⟨none, .store 3 (.tmp 24) (.tmp 23), none⟩] [0, 4, 5])
  (.seq (.seq (.reg [⟨(some 6), .assign (.const (.int .i64 0)), none⟩] [0, 4, 5, 6])
  (.block 0 (.loop __spec_l1Cur__postmark11_l0)))
  (.seq (.seq (.reg [⟨(some 46), .move (.tmp 0), none⟩,
    ⟨(some 47), .call ⟨.value (.func 46), #[(.tmp 46), (.const (.int .i64 100))], #[46, 3]⟩, none⟩] [0, 4, 5, 47])
  (.block 2 (.seq (.reg [⟨(some 49), .binOp .eql 3 (.tmp 47) (.const (.int .i64 0)) 3, none⟩,
    ⟨(some 48), .assign (.tmp 49), none⟩] [0, 4, 5, 47, 48])
  (.cond (.tmp 48) (.reg [⟨(some 50), .move (.tmp 0), none⟩,
    ⟨(some 51), .buildSlice 70 3 #[(0, (.const (.int .i64 0))), (1, (.const (.int .i64 999))), (2, (.const (.int .i64 1000)))], none⟩,
    ⟨(some 52), .call ⟨.value (.func 49), #[(.tmp 50), (.tmp 51)], #[46, 70]⟩, none⟩,
    ⟨(some 53), .fieldAddr 34 (.tmp 5) 0, none⟩,
    ⟨none, .store 3 (.tmp 53) (.tmp 52), none⟩] [4, 5])
  (.seq (.reg [⟨(some 55), .binOp .eql 3 (.tmp 47) (.const (.int .i64 1)) 3, none⟩,
    ⟨(some 54), .assign (.tmp 55), none⟩] [0, 4, 5, 47, 54])
  (.cond (.tmp 54) (.reg [⟨(some 56), .move (.tmp 0), none⟩,
    ⟨(some 57), .buildSlice 30 3 #[(0, (.const (.string ⟨#[]⟩))), (1, (.const (.string ⟨#[66, 101, 114, 110]⟩))), (2, (.const (.string ⟨#[97, 98, 99, 100, 101, 102, 103, 104, 105, 106, 107]⟩)))], none⟩,
    ⟨(some 58), .call ⟨.value (.func 55), #[(.tmp 56), (.tmp 57)], #[46, 30]⟩, none⟩,
    ⟨(some 59), .fieldAddr 34 (.tmp 5) 1, none⟩,
    ⟨none, .store 9 (.tmp 59) (.tmp 58), none⟩] [4, 5])
  (.seq (.reg [⟨(some 61), .binOp .eql 3 (.tmp 47) (.const (.int .i64 2)) 3, none⟩,
    ⟨(some 60), .assign (.tmp 61), none⟩] [0, 4, 5, 47, 60])
  (.cond (.tmp 60) (.reg [⟨(some 62), .move (.tmp 0), none⟩,
    ⟨(some 63), .buildSlice 70 2 #[(0, (.const (.int .i64 0))), (1, (.const (.int .i64 6)))], none⟩,
    ⟨(some 64), .call ⟨.value (.func 49), #[(.tmp 62), (.tmp 63)], #[46, 70]⟩, none⟩,
    ⟨(some 65), .fieldAddr 34 (.tmp 5) 2, none⟩,
    ⟨none, .store 3 (.tmp 65) (.tmp 64), none⟩] [4, 5])
  (.seq (.reg [⟨(some 67), .binOp .eql 3 (.tmp 47) (.const (.int .i64 3)) 3, none⟩,
    ⟨(some 66), .assign (.tmp 67), none⟩] [0, 4, 5, 47, 66])
  (.cond (.tmp 66) (.reg [⟨(some 68), .move (.tmp 0), none⟩,
    ⟨(some 69), .fieldAddr 34 (.tmp 5) 4, none⟩,
    ⟨(some 70), .load 3 (.tmp 69), none⟩,
    ⟨(some 71), .binOp .add 3 (.tmp 70) (.const (.int .i64 1)) 3, none⟩,
    ⟨(some 72), .buildSlice 70 2 #[(0, (.const (.int .i64 (-1)))), (1, (.tmp 71))], none⟩,
    ⟨(some 73), .call ⟨.value (.func 49), #[(.tmp 68), (.tmp 72)], #[46, 70]⟩, none⟩,
    ⟨(some 74), .fieldAddr 34 (.tmp 5) 3, none⟩,
    ⟨none, .store 3 (.tmp 74) (.tmp 73), none⟩] [4, 5])
  (.seq (.reg [⟨(some 76), .binOp .eql 3 (.tmp 47) (.const (.int .i64 4)) 3, none⟩,
    ⟨(some 75), .assign (.tmp 76), none⟩] [0, 4, 5, 47, 75])
  (.cond (.tmp 75) (.reg [⟨(some 77), .fieldAddr 34 (.tmp 5) 4, none⟩,
    ⟨none, .store 3 (.tmp 77) (.const (.int .i64 4001)), none⟩] [4, 5])
  (.seq (.reg [⟨(some 79), .binOp .eql 3 (.tmp 47) (.const (.int .i64 5)) 3, none⟩,
    ⟨(some 78), .assign (.tmp 79), none⟩] [0, 4, 5, 78])
  (.cond (.tmp 78) (.reg [⟨(some 80), .move (.tmp 0), none⟩,
    ⟨(some 81), .buildSlice 30 4 #[(0, (.const (.string ⟨#[]⟩))), (1, (.const (.string ⟨#[120, 120, 120, 120]⟩))), (2, (.const (.string ⟨#[46, 46, 63, 46]⟩))), (3, (.const (.string ⟨#[46, 46, 46, 46, 46]⟩)))], none⟩,
    ⟨(some 82), .call ⟨.value (.func 55), #[(.tmp 80), (.tmp 81)], #[46, 30]⟩, none⟩,
    ⟨(some 83), .fieldAddr 34 (.tmp 5) 5, none⟩,
    ⟨none, .store 9 (.tmp 83) (.tmp 82), none⟩] [4, 5])
  .skip))))))))))))))
  (.seq (.reg [⟨(some 84), .load 34 (.tmp 5), none⟩,
    ⟨none, .store 34 (.tmp 4) (.tmp 84), none⟩] [4])
  .ret))))))
theorem __spec_l1Cur__postmark11_k : fnOk Tryz.prog (fun i => i == 2) 47 = some (__spec_l1Cur__postmark11_c.strip, 85, [.cell 4 34]) := by kernel_rfl
/-- (*loop.example/g01062/spec.l1Cur).one: number 48, params [0, 1] -/
def __spec_l1Cur__one_c : ACode := (.seq (.reg [⟨(some 4), .assign (.const (.bool false)), none⟩] [0, 1])
  (.seq (.reg [⟨(some 5), .move (.tmp 0), none⟩,
    ⟨(some 6), .move (.tmp 1), none⟩,
    ⟨(some 7), .call ⟨.value (.func 46), #[(.tmp 5), (.tmp 6)], #[46, 3]⟩, none⟩,
    ⟨(some 8), .binOp .eql 3 (.tmp 7) (.const (.int .i64 0)) 3, none⟩,
    ⟨(some 4), .assign (.tmp 8), none⟩] [4])
  .ret))
theorem __spec_l1Cur__one_k : fnOk Tryz.prog (fun _ => false) 48 = some (__spec_l1Cur__one_c.strip, 9, [.tmp 4]) := by kernel_rfl
/-- (*loop.example/g01062/spec.l1Cur).among: number 49, params [0, 1] -/
def __spec_l1Cur__among_c : ACode := (.seq (.reg [⟨(some 4), .assign (.const (.int .i64 0)), none⟩] [0, 1])
  (.seq (.reg [⟨(some 5), .move (.tmp 1), none⟩,
    ⟨(some 6), .move (.tmp 0), none⟩,
    ⟨(some 7), .move (.tmp 1), none⟩,
    ⟨(some 8), .call ⟨.builtin .len, #[(.tmp 7)], #[70]⟩, none⟩,
    ⟨(some 9), .call ⟨.value (.func 46), #[(.tmp 6), (.tmp 8)], #[46, 3]⟩, none⟩,
    ⟨(some 10), .indexAddr 70 (.tmp 5) (.tmp 9), none⟩,
    ⟨(some 11), .load 3 (.tmp 10), none⟩,
    ⟨(some 4), .assign (.tmp 11), none⟩] [4])
  .ret))
theorem __spec_l1Cur__among_k : fnOk Tryz.prog (fun _ => false) 49 = some (__spec_l1Cur__among_c.strip, 12, [.tmp 4]) := by kernel_rfl
/-- (*loop.example/g01062/spec.l1Cur).of: number 55, params [0, 1] -/
def __spec_l1Cur__of_c : ACode := (.seq (.reg [⟨(some 4), .assign (.const (.string ⟨#[]⟩)), none⟩] [0, 1])
  (.seq (.reg [⟨(some 5), .move (.tmp 1), none⟩,
    ⟨(some 6), .move (.tmp 0), none⟩,
    ⟨(some 7), .move (.tmp 1), none⟩,
    ⟨(some 8), .call ⟨.builtin .len, #[(.tmp 7)], #[30]⟩, none⟩,
    ⟨(some 9), .call ⟨.value (.func 46), #[(.tmp 6), (.tmp 8)], #[46, 3]⟩, none⟩,
    ⟨(some 10), .indexAddr 30 (.tmp 5) (.tmp 9), none⟩,
    ⟨(some 11), .load 9 (.tmp 10), none⟩,
    ⟨(some 4), .assign (.tmp 11), none⟩] [4])
  .ret))
theorem __spec_l1Cur__of_k : fnOk Tryz.prog (fun _ => false) 55 = some (__spec_l1Cur__of_c.strip, 12, [.tmp 4]) := by kernel_rfl
/-- (*loop.example/g01062/spec.l1Cur).town11: number 56, params [0] -/
def __spec_l1Cur__town11_c : ACode := (.seq (.reg [⟨(some 2), .assign (.const (.string ⟨#[]⟩)), none⟩] [0])
  (.seq (.reg [⟨(some 3), .move (.tmp 0), none⟩,
    ⟨(some 4), .buildSlice 30 5 #[(0, (.const (.string ⟨#[98, 97, 115, 101, 108]⟩))), (1, (.const (.string ⟨#[98, 101, 114, 110]⟩))), (2, (.const (.string ⟨#[98, 111, 110, 110]⟩))), (3, (.const (.string ⟨#[103, 101, 110, 102]⟩))), (4, (.const (.string ⟨#[98, 97, 115, 101, 108]⟩)))], none⟩,
    ⟨(some 5), .call ⟨.value (.func 55), #[(.tmp 3), (.tmp 4)], #[46, 30]⟩, none⟩,
    ⟨(some 2), .assign (.tmp 5), none⟩] [2])
  .ret))
theorem __spec_l1Cur__town11_k : fnOk Tryz.prog (fun _ => false) 56 = some (__spec_l1Cur__town11_c.strip, 6, [.tmp 2]) := by kernel_rfl
/-- (*loop.example/g01062/spec.l1Cur).next: number 60, params [0] -/
def __spec_l1Cur__next_c : ACode := (.seq (.reg [⟨(some 2), .assign (.const (.int .i64 0)), none⟩] [0])
  (.seq (.reg [⟨(some 3), .assign (.const (.int .i64 0)), none⟩] [0, 3])
  (.seq (.seq (.regQ [⟨(some 4), .move (.tmp 0), none⟩,
    ⟨(some 5), .nilCheck (.tmp 4), none⟩,
    ⟨(some 6), .fieldAddr 49 (.tmp 5) 1, none⟩,
    ⟨(some 7), .load 3 (.tmp 6), none⟩,
    ⟨(some 8), .move (.tmp 0), none⟩,
    ⟨(some 9), .nilCheck (.tmp 8), none⟩,
    ⟨(some 10), .fieldAddr 49 (.tmp 9) 0, none⟩,
    ⟨(some 11), .load 22 (.tmp 10), none⟩,
    ⟨(some 12), .call ⟨.builtin .len, #[(.tmp 11)], #[22]⟩, none⟩,
    ⟨(some 13), .binOp .lss 3 (.tmp 7) (.tmp 12) 3, none⟩] [0, 3, 13])
  (.cond (.tmp 13) (.regQ [⟨(some 14), .move (.tmp 0), none⟩,
    ⟨(some 15), .nilCheck (.tmp 14), none⟩,
    ⟨(some 16), .fieldAddr 49 (.tmp 15) 0, none⟩,
    ⟨(some 17), .load 22 (.tmp 16), none⟩,
    ⟨(some 18), .move (.tmp 0), none⟩,
    ⟨(some 19), .nilCheck (.tmp 18), none⟩,
    ⟨(some 20), .fieldAddr 49 (.tmp 19) 1, none⟩,
    ⟨(some 21), .load 3 (.tmp 20), none⟩,
    ⟨(some 22), .indexAddr 22 (.tmp 17) (.tmp 21), none⟩,
    ⟨(some 23), .load 5 (.tmp 22), none⟩,
    ⟨(some 24), .convert 5 3 (.tmp 23), none⟩,
    ⟨(some 3), .assign (.tmp 24), none⟩] [0, 3])
  .skip))
  (.seq (.reg [⟨(some 25), .move (.tmp 0), none⟩,
    ⟨(some 26), .nilCheck (.tmp 25), none⟩,
    ⟨(some 27), .fieldAddr 49 (.tmp 26) 1, none⟩,
    ⟨(some 28), .load 3 (.tmp 27), none⟩,
    ⟨(some 29), .binOp .add 3 (.tmp 28) (.const (.int .i64 1)) 3, none⟩,
    ⟨(some 30), .nilCheck (.tmp 25), none⟩,
    ⟨(some 31), .fieldAddr 49 (.tmp 30) 1, none⟩,
    ⟨none, .store 3 (.tmp 31) (.tmp 29), none⟩] [0, 3])
  (.seq (.reg [⟨(some 32), .move (.tmp 0), none⟩,
    ⟨(some 33), .move (.tmp 0), none⟩,
    ⟨(some 34), .nilCheck (.tmp 33), none⟩,
    ⟨(some 35), .fieldAddr 49 (.tmp 34) 2, none⟩,
    ⟨(some 36), .load 47 (.tmp 35), none⟩,
    ⟨(some 37), .binOp .mul 47 (.tmp 36) (.const (.int .u64 6364136223846793005)) 47, none⟩,
    ⟨(some 38), .move (.tmp 3), none⟩,
    ⟨(some 39), .convert 3 47 (.tmp 38), none⟩,
    ⟨(some 40), .binOp .add 47 (.tmp 37) (.tmp 39) 47, none⟩,
    ⟨(some 41), .binOp .add 47 (.tmp 40) (.const (.int .u64 381907)) 47, none⟩,
    ⟨(some 42), .nilCheck (.tmp 32), none⟩,
    ⟨(some 43), .fieldAddr 49 (.tmp 42) 2, none⟩,
    ⟨none, .store 47 (.tmp 43) (.tmp 41), none⟩] [0, 3])
  (.seq (.seq (.regQ [⟨(some 44), .move (.tmp 0), none⟩,
    ⟨(some 45), .nilCheck (.tmp 44), none⟩,
    ⟨(some 46), .fieldAddr 49 (.tmp 45) 1, none⟩,
    ⟨(some 47), .load 3 (.tmp 46), none⟩,
    ⟨(some 48), .move (.tmp 0), none⟩,
    ⟨(some 49), .nilCheck (.tmp 48), none⟩,
    ⟨(some 50), .fieldAddr 49 (.tmp 49) 0, none⟩,
    ⟨(some 51), .load 22 (.tmp 50), none⟩,
    ⟨(some 52), .call ⟨.builtin .len, #[(.tmp 51)], #[22]⟩, none⟩,
    ⟨(some 53), .binOp .leq 3 (.tmp 47) (.tmp 52) 3, none⟩] [0, 3, 53])
  (.cond (.tmp 53) (.seq (.reg [⟨(some 54), .move (.tmp 3), none⟩,
    ⟨(some 2), .assign (.tmp 54), none⟩] [2])
  .ret)
  .skip))
  (.seq (.reg [⟨(some 55), .move (.tmp 0), none⟩,
    ⟨(some 56), .nilCheck (.tmp 55), none⟩,
    ⟨(some 57), .fieldAddr 49 (.tmp 56) 2, none⟩,
    ⟨(some 58), .load 47 (.tmp 57), none⟩,
    ⟨(some 59), .binOp .shr 47 (.tmp 58) (.const (.int .u64 40)) 74, none⟩,
    ⟨(some 60), .binOp .and 47 (.tmp 59) (.const (.int .u64 255)) 47, none⟩,
    ⟨(some 61), .convert 47 3 (.tmp 60), none⟩,
    ⟨(some 2), .assign (.tmp 61), none⟩] [2])
  .ret)))))))
theorem __spec_l1Cur__next_k : fnOk Tryz.prog (fun _ => false) 60 = some (__spec_l1Cur__next_c.strip, 62, [.tmp 2]) := by kernel_rfl
end Go.Proofs.YtnehhdcaknppnaaGreatDoor
