/- Printed by a program of ours: the functions' abstract code and facts on their types. -/
import Derived.Test.YtnehhdcaknppnaaGreatDoorAbsP
import Derived.Test.YtnehhdcaknppnaaGreatDoorProg
import Derived.KernelRfl
set_option maxRecDepth 8000
namespace Go.Proofs.YtnehhdcaknppnaaGreatDoor
open Go Go.RowKit
@[simp] theorem dk_3 : dK Tryz.prog 3 = some (.int .i64) := by kernel_rfl
@[simp] theorem ty_3 : tyK Tryz.prog 3 = some .cell := by kernel_rfl
@[simp] theorem zero_3 : zeroK Tryz.prog 3 = some [.int .i64 0] := by kernel_rfl
@[simp] theorem dk_4 : dK Tryz.prog 4 = some .bool := by kernel_rfl
@[simp] theorem ty_4 : tyK Tryz.prog 4 = some .cell := by kernel_rfl
@[simp] theorem zero_4 : zeroK Tryz.prog 4 = some [.bool false] := by kernel_rfl
@[simp] theorem dk_5 : dK Tryz.prog 5 = some (.int .u8) := by kernel_rfl
@[simp] theorem ty_5 : tyK Tryz.prog 5 = some .cell := by kernel_rfl
@[simp] theorem zero_5 : zeroK Tryz.prog 5 = some [.int .u8 0] := by kernel_rfl
@[simp] theorem dk_9 : dK Tryz.prog 9 = some .str := by kernel_rfl
@[simp] theorem ty_9 : tyK Tryz.prog 9 = some .cell := by kernel_rfl
@[simp] theorem zero_9 : zeroK Tryz.prog 9 = some [.str []] := by kernel_rfl
@[simp] theorem sl_22 : slK Tryz.prog 22 = some (5, 1, 1) := by kernel_rfl
@[simp] theorem dk_22 : dK Tryz.prog 22 = some (.bytes 5) := by kernel_rfl
@[simp] theorem ty_22 : tyK Tryz.prog 22 = some .cell := by kernel_rfl
@[simp] theorem zero_22 : zeroK Tryz.prog 22 = some [.nils] := by kernel_rfl
@[simp] theorem sl_24 : slK Tryz.prog 24 = some (34, 6, 64) := by kernel_rfl
@[simp] theorem dk_24 : dK Tryz.prog 24 = some .slc := by kernel_rfl
@[simp] theorem ty_24 : tyK Tryz.prog 24 = some .cell := by kernel_rfl
@[simp] theorem zero_24 : zeroK Tryz.prog 24 = some [.nils] := by kernel_rfl
@[simp] theorem sl_30 : slK Tryz.prog 30 = some (9, 1, 16) := by kernel_rfl
@[simp] theorem dk_30 : dK Tryz.prog 30 = some .slc := by kernel_rfl
@[simp] theorem ty_30 : tyK Tryz.prog 30 = some .cell := by kernel_rfl
@[simp] theorem zero_30 : zeroK Tryz.prog 30 = some [.nils] := by kernel_rfl
@[simp] theorem ty_34 : tyK Tryz.prog 34 = some (.obj 6) := by kernel_rfl
@[simp] theorem fld_34_0 : fldK Tryz.prog 34 0 = some 0 := by kernel_rfl
@[simp] theorem fld_34_1 : fldK Tryz.prog 34 1 = some 1 := by kernel_rfl
@[simp] theorem fld_34_2 : fldK Tryz.prog 34 2 = some 2 := by kernel_rfl
@[simp] theorem fld_34_3 : fldK Tryz.prog 34 3 = some 3 := by kernel_rfl
@[simp] theorem fld_34_4 : fldK Tryz.prog 34 4 = some 4 := by kernel_rfl
@[simp] theorem fld_34_5 : fldK Tryz.prog 34 5 = some 5 := by kernel_rfl
@[simp] theorem eqk_34 : eqKs Tryz.prog 34 = some [0, 1, 0, 0, 0, 1] := by kernel_rfl
@[simp] theorem pl_34 : plK Tryz.prog 34 = some (some [(0, 1), (1, 1), (2, 1), (3, 1), (4, 1), (5, 1)]) := by kernel_rfl
@[simp] theorem zero_34 : zeroK Tryz.prog 34 = some [.int .i64 0, .str [], .int .i64 0, .int .i64 0, .int .i64 0, .str []] := by kernel_rfl
@[simp] theorem sl_62 : slK Tryz.prog 62 = some (4, 1, 1) := by kernel_rfl
@[simp] theorem dk_62 : dK Tryz.prog 62 = some .slc := by kernel_rfl
@[simp] theorem ty_62 : tyK Tryz.prog 62 = some .cell := by kernel_rfl
@[simp] theorem zero_62 : zeroK Tryz.prog 62 = some [.nils] := by kernel_rfl
@[simp] theorem dk_74 : dK Tryz.prog 74 = some (.int .u64) := by kernel_rfl
@[simp] theorem ty_74 : tyK Tryz.prog 74 = some .cell := by kernel_rfl
@[simp] theorem zero_74 : zeroK Tryz.prog 74 = some [.int .u64 0] := by kernel_rfl
@[simp] theorem dk_99 : dK Tryz.prog 99 = some (.int .u64) := by kernel_rfl
@[simp] theorem ty_99 : tyK Tryz.prog 99 = some .cell := by kernel_rfl
@[simp] theorem zero_99 : zeroK Tryz.prog 99 = some [.int .u64 0] := by kernel_rfl
/-- head: [0, 3, 4, 6, 7, 12, 14] -/
def laws_FnUses_l0 : ACode := (.seq (.seq (.reg [⟨(some 82), .move (.tmp 14), none⟩,
    ⟨(some 83), .move (.tmp 3), none⟩,
    ⟨(some 84), .call ⟨.builtin .len, #[(.tmp 83)], #[24]⟩, none⟩,
    ⟨(some 85), .binOp .lss 3 (.tmp 82) (.tmp 84) 3, none⟩] [0, 3, 4, 6, 7, 12, 14, 85])
  (.cond (.tmp 85) .skip
  (.exit 0)))
  (.seq (.block 1 (.seq (.regF []
    [88, 89, 90, 91, 92, 93, 94, 95, 96, 97, 98, 99, 100, 101, 103, 104, 105, 106, 107, 108, 109, 110, 111, 112, 113, 114, 115, 116, 117, 118, 119, 120, 121, 122, 123, 124, 125, 126, 127, 128, 129, 130, 131] []
    [⟨(some 88), .move (.tmp 3), none⟩,
    ⟨(some 89), .move (.tmp 14), none⟩,
    ⟨(some 90), .indexAddr 24 (.tmp 88) (.tmp 89), none⟩,
    ⟨(some 91), .fieldAddr 34 (.tmp 90) 0, none⟩,
    ⟨(some 92), .load 3 (.tmp 91), none⟩,
    ⟨(some 93), .move (.tmp 4), none⟩,
    ⟨(some 94), .binOp .eql 3 (.tmp 92) (.tmp 93) 3, none⟩,
    ⟨(some 95), .move (.tmp 94), none⟩,
    ⟨(some 96), .move (.tmp 12), (some (some 95, true))⟩,
    ⟨(some 97), .move (.tmp 3), (some (some 95, true))⟩,
    ⟨(some 98), .move (.tmp 14), (some (some 95, true))⟩,
    ⟨(some 99), .indexAddr 24 (.tmp 97) (.tmp 98), (some (some 95, true))⟩,
    ⟨(some 100), .fieldAddr 34 (.tmp 99) 1, (some (some 95, true))⟩,
    ⟨(some 101), .load 9 (.tmp 100), (some (some 95, true))⟩,
    ⟨(some 102), .call ⟨.value (.func 10), #[(.tmp 96), (.tmp 101)], #[30, 9]⟩, (some (some 95, true))⟩,
    ⟨(some 103), .unOp .not 4 (.tmp 102), (some (some 95, true))⟩,
    ⟨(some 104), .move (.tmp 103), (some (some 95, true))⟩,
    ⟨(some 105), .move (.tmp 6), (some (some 104, false))⟩,
    ⟨(some 106), .move (.tmp 14), (some (some 104, false))⟩,
    ⟨(some 107), .indexAddr 24 (.tmp 105) (.tmp 106), (some (some 104, false))⟩,
    ⟨(some 108), .fieldAddr 34 (.tmp 107) 4, (some (some 104, false))⟩,
    ⟨(some 109), .load 3 (.tmp 108), (some (some 104, false))⟩,
    ⟨(some 110), .move (.tmp 6), (some (some 104, false))⟩,
    ⟨(some 111), .move (.tmp 14), (some (some 104, false))⟩,
    ⟨(some 112), .indexAddr 24 (.tmp 110) (.tmp 111), (some (some 104, false))⟩,
    ⟨(some 113), .fieldAddr 34 (.tmp 112) 3, (some (some 104, false))⟩,
    ⟨(some 114), .load 3 (.tmp 113), (some (some 104, false))⟩,
    ⟨(some 115), .binOp .sub 3 (.tmp 109) (.tmp 114) 3, (some (some 104, false))⟩,
    ⟨(some 116), .move (.tmp 3), (some (some 104, false))⟩,
    ⟨(some 117), .move (.tmp 14), (some (some 104, false))⟩,
    ⟨(some 118), .indexAddr 24 (.tmp 116) (.tmp 117), (some (some 104, false))⟩,
    ⟨(some 119), .fieldAddr 34 (.tmp 118) 4, (some (some 104, false))⟩,
    ⟨(some 120), .load 3 (.tmp 119), (some (some 104, false))⟩,
    ⟨(some 121), .move (.tmp 3), (some (some 104, false))⟩,
    ⟨(some 122), .move (.tmp 14), (some (some 104, false))⟩,
    ⟨(some 123), .indexAddr 24 (.tmp 121) (.tmp 122), (some (some 104, false))⟩,
    ⟨(some 124), .fieldAddr 34 (.tmp 123) 3, (some (some 104, false))⟩,
    ⟨(some 125), .load 3 (.tmp 124), (some (some 104, false))⟩,
    ⟨(some 126), .binOp .sub 3 (.tmp 120) (.tmp 125) 3, (some (some 104, false))⟩,
    ⟨(some 127), .move (.tmp 7), (some (some 104, false))⟩,
    ⟨(some 128), .binOp .add 3 (.tmp 126) (.tmp 127) 3, (some (some 104, false))⟩,
    ⟨(some 129), .binOp .neq 3 (.tmp 115) (.tmp 128) 3, (some (some 104, false))⟩,
    ⟨(some 130), .pick (.tmp 104) (.const (.bool true)) (.tmp 129), (some (some 95, true))⟩,
    ⟨(some 131), .pick (.tmp 95) (.tmp 130) (.const (.bool false)), none⟩] [0, 3, 4, 6, 7, 12, 14, 131])
  (.cond (.tmp 131) (.seq (.reg [⟨(some 2), .assign (.const (.bool false)), none⟩] [2])
  .ret)
  .skip)))
  (.reg [⟨(some 86), .move (.tmp 14), none⟩,
    ⟨(some 87), .binOp .add 3 (.tmp 86) (.const (.int .i64 1)) 3, none⟩,
    ⟨(some 14), .assign (.tmp 87), none⟩] [0, 3, 4, 6, 7, 12, 14])))
/-- head: [0, 15, 16, 17, 21, 22, 23] -/
def laws_FnUses_l1 : ACode := (.seq (.seq (.reg [⟨(some 158), .move (.tmp 23), none⟩,
    ⟨(some 159), .move (.tmp 15), none⟩,
    ⟨(some 160), .call ⟨.builtin .len, #[(.tmp 159)], #[24]⟩, none⟩,
    ⟨(some 161), .binOp .lss 3 (.tmp 158) (.tmp 160) 3, none⟩] [0, 15, 16, 17, 21, 22, 23, 161])
  (.cond (.tmp 161) .skip
  (.exit 2)))
  (.seq (.block 3 (.seq (.seq (.reg [⟨(some 164), .move (.tmp 15), none⟩,
    ⟨(some 165), .move (.tmp 23), none⟩,
    ⟨(some 166), .indexAddr 24 (.tmp 164) (.tmp 165), none⟩,
    ⟨(some 167), .fieldAddr 34 (.tmp 166) 1, none⟩,
    ⟨(some 168), .load 9 (.tmp 167), none⟩,
    ⟨(some 169), .move (.tmp 16), none⟩,
    ⟨(some 170), .binOp .eql 9 (.tmp 168) (.tmp 169) 9, none⟩,
    ⟨(some 171), .move (.tmp 170), none⟩,
    ⟨(some 172), .move (.tmp 15), (some (some 171, true))⟩,
    ⟨(some 173), .move (.tmp 23), (some (some 171, true))⟩,
    ⟨(some 174), .indexAddr 24 (.tmp 172) (.tmp 173), (some (some 171, true))⟩,
    ⟨(some 175), .fieldAddr 34 (.tmp 174) 3, (some (some 171, true))⟩,
    ⟨(some 176), .load 3 (.tmp 175), (some (some 171, true))⟩,
    ⟨(some 177), .move (.tmp 21), (some (some 171, true))⟩,
    ⟨(some 178), .binOp .lss 3 (.tmp 176) (.tmp 177) 3, (some (some 171, true))⟩,
    ⟨(some 179), .pick (.tmp 171) (.tmp 178) (.const (.bool false)), none⟩] [0, 15, 16, 17, 21, 22, 23, 179])
  (.cond (.tmp 179) (.reg [⟨(some 180), .move (.tmp 15), none⟩,
    ⟨(some 181), .move (.tmp 23), none⟩,
    ⟨(some 182), .indexAddr 24 (.tmp 180) (.tmp 181), none⟩,
    ⟨(some 183), .fieldAddr 34 (.tmp 182) 3, none⟩,
    ⟨(some 184), .load 3 (.tmp 183), none⟩,
    ⟨(some 21), .assign (.tmp 184), none⟩] [0, 15, 16, 17, 21, 22, 23])
  .skip))
  (.seq (.reg [⟨(some 185), .move (.tmp 15), none⟩,
    ⟨(some 186), .move (.tmp 23), none⟩,
    ⟨(some 187), .indexAddr 24 (.tmp 185) (.tmp 186), none⟩,
    ⟨(some 188), .fieldAddr 34 (.tmp 187) 1, none⟩,
    ⟨(some 189), .load 9 (.tmp 188), none⟩,
    ⟨(some 190), .move (.tmp 16), none⟩,
    ⟨(some 191), .binOp .eql 9 (.tmp 189) (.tmp 190) 9, none⟩,
    ⟨(some 192), .move (.tmp 191), none⟩,
    ⟨(some 193), .move (.tmp 15), (some (some 192, true))⟩,
    ⟨(some 194), .move (.tmp 23), (some (some 192, true))⟩,
    ⟨(some 195), .indexAddr 24 (.tmp 193) (.tmp 194), (some (some 192, true))⟩,
    ⟨(some 196), .fieldAddr 34 (.tmp 195) 4, (some (some 192, true))⟩,
    ⟨(some 197), .load 3 (.tmp 196), (some (some 192, true))⟩,
    ⟨(some 198), .move (.tmp 22), (some (some 192, true))⟩,
    ⟨(some 199), .binOp .gtr 3 (.tmp 197) (.tmp 198) 3, (some (some 192, true))⟩,
    ⟨(some 200), .pick (.tmp 192) (.tmp 199) (.const (.bool false)), none⟩] [0, 15, 16, 17, 21, 22, 23, 200])
  (.cond (.tmp 200) (.reg [⟨(some 201), .move (.tmp 15), none⟩,
    ⟨(some 202), .move (.tmp 23), none⟩,
    ⟨(some 203), .indexAddr 24 (.tmp 201) (.tmp 202), none⟩,
    ⟨(some 204), .fieldAddr 34 (.tmp 203) 4, none⟩,
    ⟨(some 205), .load 3 (.tmp 204), none⟩,
    ⟨(some 22), .assign (.tmp 205), none⟩] [0, 15, 16, 17, 21, 22, 23])
  .skip))))
  (.reg [⟨(some 162), .move (.tmp 23), none⟩,
    ⟨(some 163), .binOp .add 3 (.tmp 162) (.const (.int .i64 1)) 3, none⟩,
    ⟨(some 23), .assign (.tmp 163), none⟩] [0, 15, 16, 17, 21, 22, 23])))
/-- loop.example/g01062/laws.FnUses: number 3, params [0] -/
def laws_FnUses_c : ACode := (.seq (.reg [⟨(some 2), .assign (.const (.bool false)), none⟩] [0])
  (.seq (.seq (.reg [⟨(some 35), .move (.tmp 0), none⟩,
    ⟨(some 36), .call ⟨.value (.func 4), #[(.tmp 35)], #[22]⟩, none⟩] [0, 36])
  (.cond (.tmp 36) (.seq (.reg [⟨(some 2), .assign (.const (.bool true)), none⟩] [2])
  .ret)
  .skip))
  (.seq (.reg [⟨(some 38), .move (.tmp 0), none⟩,
    ⟨(some 39), .call ⟨.value (.func 5), #[(.tmp 38)], #[22]⟩, none⟩,
    ⟨(some 37), .move (.tmp 39), none⟩,
    ⟨(some 40), .extract (.tmp 37) 0, none⟩,
    ⟨(some 41), .extract (.tmp 37) 1, none⟩,
    ⟨(some 42), .extract (.tmp 37) 2, none⟩,
    ⟨(some 3), .assign (.tmp 40), none⟩,
    ⟨(some 4), .assign (.tmp 41), none⟩,
    ⟨(some 5), .assign (.tmp 42), none⟩] [0, 3, 4, 5])
  (.seq (.reg [⟨(some 44), .move (.tmp 3), none⟩,
    ⟨(some 45), .move (.tmp 4), none⟩,
    ⟨(some 46), .move (.tmp 5), none⟩,
    ⟨(some 47), .call ⟨.value (.func 6), #[(.tmp 44), (.tmp 45), (.tmp 46)], #[24, 3, 3]⟩, none⟩,
    ⟨(some 43), .move (.tmp 47), none⟩,
    ⟨(some 48), .extract (.tmp 43) 0, none⟩,
    ⟨(some 49), .extract (.tmp 43) 1, none⟩,
    ⟨(some 50), .extract (.tmp 43) 2, none⟩,
    ⟨(some 6), .assign (.tmp 48), none⟩,
    ⟨(some 7), .assign (.tmp 49), none⟩,
    ⟨(some 8), .assign (.tmp 50), none⟩] [0, 3, 4, 5, 6, 7, 8])
  (.seq (.seq (.reg [⟨(some 52), .move (.tmp 3), none⟩,
    ⟨(some 53), .move (.tmp 4), none⟩,
    ⟨(some 54), .move (.tmp 5), none⟩,
    ⟨(some 55), .call ⟨.value (.func 7), #[(.tmp 52), (.tmp 53), (.tmp 54)], #[24, 3, 3]⟩, none⟩,
    ⟨(some 51), .move (.tmp 55), none⟩,
    ⟨(some 56), .extract (.tmp 51) 0, none⟩,
    ⟨(some 57), .extract (.tmp 51) 1, none⟩,
    ⟨(some 58), .extract (.tmp 51) 2, none⟩,
    ⟨(some 9), .assign (.tmp 56), none⟩,
    ⟨(some 10), .assign (.tmp 57), none⟩,
    ⟨(some 11), .assign (.tmp 58), none⟩] [0, 3, 4, 5, 6, 7, 8, 9, 10, 11])
  (.seq (.reg [⟨(some 59), .move (.tmp 8), none⟩,
    ⟨(some 60), .move (.tmp 11), none⟩,
    ⟨(some 61), .binOp .neq 4 (.tmp 59) (.tmp 60) 4, none⟩,
    ⟨(some 62), .move (.tmp 61), none⟩,
    ⟨(some 63), .move (.tmp 7), (some (some 62, false))⟩,
    ⟨(some 64), .move (.tmp 10), (some (some 62, false))⟩,
    ⟨(some 65), .binOp .neq 3 (.tmp 63) (.tmp 64) 3, (some (some 62, false))⟩,
    ⟨(some 66), .pick (.tmp 62) (.const (.bool true)) (.tmp 65), none⟩,
    ⟨(some 67), .move (.tmp 66), none⟩,
    ⟨(some 68), .move (.tmp 6), (some (some 67, false))⟩,
    ⟨(some 69), .move (.tmp 9), (some (some 67, false))⟩,
    ⟨(some 70), .call ⟨.value (.func 8), #[(.tmp 68), (.tmp 69)], #[24, 24]⟩, (some (some 67, false))⟩,
    ⟨(some 71), .unOp .not 4 (.tmp 70), (some (some 67, false))⟩,
    ⟨(some 72), .pick (.tmp 67) (.const (.bool true)) (.tmp 71), none⟩] [0, 3, 4, 5, 6, 7, 8, 72])
  (.cond (.tmp 72) (.seq (.reg [⟨(some 2), .assign (.const (.bool false)), none⟩] [2])
  .ret)
  .skip)))
  (.seq (.seq (.reg [⟨(some 73), .move (.tmp 8), none⟩] [0, 3, 4, 5, 6, 7, 73])
  (.cond (.tmp 73) (.seq (.reg [⟨(some 75), .move (.tmp 6), none⟩,
    ⟨(some 76), .move (.tmp 5), none⟩,
    ⟨(some 77), .call ⟨.value (.func 9), #[(.tmp 75), (.tmp 76)], #[24, 3]⟩, none⟩,
    ⟨(some 74), .move (.tmp 77), none⟩,
    ⟨(some 78), .extract (.tmp 74) 0, none⟩,
    ⟨(some 79), .extract (.tmp 74) 1, none⟩,
    ⟨(some 12), .assign (.tmp 78), none⟩,
    ⟨(some 13), .assign (.tmp 79), none⟩] [0, 3, 4, 6, 7, 12, 13])
  (.seq (.seq (.reg [⟨(some 80), .move (.tmp 13), none⟩,
    ⟨(some 81), .unOp .not 4 (.tmp 80), none⟩] [0, 3, 4, 6, 7, 12, 81])
  (.cond (.tmp 81) (.seq (.reg [⟨(some 2), .assign (.const (.bool false)), none⟩] [2])
  .ret)
  .skip))
  (.seq (.reg [⟨(some 14), .assign (.const (.int .i64 0)), none⟩] [0, 3, 4, 6, 7, 12, 14])
  (.block 0 (.loop laws_FnUses_l0)))))
  .skip))
  (.seq (.reg [⟨(some 133), .move (.tmp 0), none⟩,
    ⟨(some 134), .call ⟨.value (.func 11), #[(.tmp 133)], #[22]⟩, none⟩,
    ⟨(some 132), .move (.tmp 134), none⟩,
    ⟨(some 135), .extract (.tmp 132) 0, none⟩,
    ⟨(some 136), .extract (.tmp 132) 1, none⟩,
    ⟨(some 15), .assign (.tmp 135), none⟩,
    ⟨(some 16), .assign (.tmp 136), none⟩] [0, 15, 16])
  (.seq (.reg [⟨(some 138), .move (.tmp 15), none⟩,
    ⟨(some 139), .move (.tmp 16), none⟩,
    ⟨(some 140), .call ⟨.value (.func 12), #[(.tmp 138), (.tmp 139)], #[24, 9]⟩, none⟩,
    ⟨(some 137), .move (.tmp 140), none⟩,
    ⟨(some 141), .extract (.tmp 137) 0, none⟩,
    ⟨(some 142), .extract (.tmp 137) 1, none⟩,
    ⟨(some 17), .assign (.tmp 141), none⟩,
    ⟨(some 18), .assign (.tmp 142), none⟩] [0, 15, 16, 17, 18])
  (.seq (.seq (.reg [⟨(some 144), .move (.tmp 15), none⟩,
    ⟨(some 145), .move (.tmp 16), none⟩,
    ⟨(some 146), .call ⟨.value (.func 13), #[(.tmp 144), (.tmp 145)], #[24, 9]⟩, none⟩,
    ⟨(some 143), .move (.tmp 146), none⟩,
    ⟨(some 147), .extract (.tmp 143) 0, none⟩,
    ⟨(some 148), .extract (.tmp 143) 1, none⟩,
    ⟨(some 19), .assign (.tmp 147), none⟩,
    ⟨(some 20), .assign (.tmp 148), none⟩] [0, 15, 16, 17, 18, 19, 20])
  (.seq (.reg [⟨(some 149), .move (.tmp 17), none⟩,
    ⟨(some 150), .move (.tmp 19), none⟩,
    ⟨(some 151), .binOp .neq 3 (.tmp 149) (.tmp 150) 3, none⟩,
    ⟨(some 152), .move (.tmp 151), none⟩,
    ⟨(some 153), .move (.tmp 18), (some (some 152, false))⟩,
    ⟨(some 154), .move (.tmp 20), (some (some 152, false))⟩,
    ⟨(some 155), .binOp .neq 4 (.tmp 153) (.tmp 154) 4, (some (some 152, false))⟩,
    ⟨(some 156), .pick (.tmp 152) (.const (.bool true)) (.tmp 155), none⟩] [0, 15, 16, 17, 18, 156])
  (.cond (.tmp 156) (.seq (.reg [⟨(some 2), .assign (.const (.bool false)), none⟩] [2])
  .ret)
  .skip)))
  (.seq (.seq (.reg [⟨(some 157), .move (.tmp 18), none⟩] [0, 15, 16, 17, 157])
  (.cond (.tmp 157) (.seq (.reg [⟨(some 21), .assign (.const (.int .i64 4000)), none⟩,
    ⟨(some 22), .assign (.const (.int .i64 0)), none⟩] [0, 15, 16, 17, 21, 22])
  (.seq (.seq (.reg [⟨(some 23), .assign (.const (.int .i64 0)), none⟩] [0, 15, 16, 17, 21, 22, 23])
  (.block 2 (.loop laws_FnUses_l1)))
  (.seq (.reg [⟨(some 206), .move (.tmp 17), none⟩,
    ⟨(some 207), .binOp .lss 3 (.tmp 206) (.const (.int .i64 0)) 3, none⟩,
    ⟨(some 208), .move (.tmp 207), none⟩,
    ⟨(some 209), .move (.tmp 17), (some (some 208, false))⟩,
    ⟨(some 210), .move (.tmp 22), (some (some 208, false))⟩,
    ⟨(some 211), .move (.tmp 21), (some (some 208, false))⟩,
    ⟨(some 212), .binOp .sub 3 (.tmp 210) (.tmp 211) 3, (some (some 208, false))⟩,
    ⟨(some 213), .binOp .gtr 3 (.tmp 209) (.tmp 212) 3, (some (some 208, false))⟩,
    ⟨(some 214), .pick (.tmp 208) (.const (.bool true)) (.tmp 213), none⟩] [0, 214])
  (.cond (.tmp 214) (.seq (.reg [⟨(some 2), .assign (.const (.bool false)), none⟩] [2])
  .ret)
  .skip))))
  .skip))
  (.seq (.reg [⟨(some 216), .move (.tmp 0), none⟩,
    ⟨(some 217), .call ⟨.value (.func 14), #[(.tmp 216)], #[22]⟩, none⟩,
    ⟨(some 215), .move (.tmp 217), none⟩,
    ⟨(some 218), .extract (.tmp 215) 0, none⟩,
    ⟨(some 219), .extract (.tmp 215) 1, none⟩,
    ⟨(some 24), .assign (.tmp 218), none⟩,
    ⟨(some 25), .assign (.tmp 219), none⟩] [0, 24, 25])
  (.seq (.reg [⟨(some 221), .move (.tmp 24), none⟩,
    ⟨(some 222), .move (.tmp 25), none⟩,
    ⟨(some 223), .call ⟨.value (.func 9), #[(.tmp 221), (.tmp 222)], #[24, 3]⟩, none⟩,
    ⟨(some 220), .move (.tmp 223), none⟩,
    ⟨(some 224), .extract (.tmp 220) 0, none⟩,
    ⟨(some 225), .extract (.tmp 220) 1, none⟩,
    ⟨(some 26), .assign (.tmp 224), none⟩,
    ⟨(some 27), .assign (.tmp 225), none⟩] [0, 24, 25, 26, 27])
  (.seq (.reg [⟨(some 227), .move (.tmp 24), none⟩,
    ⟨(some 228), .move (.tmp 25), none⟩,
    ⟨(some 229), .call ⟨.value (.func 15), #[(.tmp 227), (.tmp 228)], #[24, 3]⟩, none⟩,
    ⟨(some 226), .move (.tmp 229), none⟩,
    ⟨(some 230), .extract (.tmp 226) 0, none⟩,
    ⟨(some 231), .extract (.tmp 226) 1, none⟩,
    ⟨(some 28), .assign (.tmp 230), none⟩,
    ⟨(some 29), .assign (.tmp 231), none⟩] [0, 26, 27, 28, 29])
  (.seq (.reg [⟨(some 232), .move (.tmp 0), none⟩,
    ⟨(some 233), .call ⟨.value (.func 16), #[(.tmp 232)], #[22]⟩, none⟩,
    ⟨(some 30), .alloc 34, none⟩,
    ⟨none, .store 34 (.tmp 30) (.tmp 233), none⟩] [26, 27, 28, 29, 30])
  (.seq (.reg [⟨(some 235), .load 34 (.tmp 30), none⟩,
    ⟨(some 236), .call ⟨.value (.func 17), #[(.tmp 235)], #[34]⟩, none⟩,
    ⟨(some 234), .move (.tmp 236), none⟩,
    ⟨(some 237), .extract (.tmp 234) 0, none⟩,
    ⟨(some 238), .extract (.tmp 234) 1, none⟩,
    ⟨(some 31), .assign (.tmp 237), none⟩,
    ⟨(some 32), .assign (.tmp 238), none⟩] [26, 27, 28, 29, 30, 31, 32])
  (.seq (.reg [⟨(some 240), .load 34 (.tmp 30), none⟩,
    ⟨(some 241), .call ⟨.value (.func 18), #[(.tmp 240)], #[34]⟩, none⟩,
    ⟨(some 239), .move (.tmp 241), none⟩,
    ⟨(some 242), .extract (.tmp 239) 0, none⟩,
    ⟨(some 243), .extract (.tmp 239) 1, none⟩,
    ⟨(some 33), .assign (.tmp 242), none⟩,
    ⟨(some 34), .assign (.tmp 243), none⟩] [26, 27, 28, 29, 31, 32, 33, 34])
  (.seq (.reg [⟨(some 244), .move (.tmp 27), none⟩,
    ⟨(some 245), .move (.tmp 29), none⟩,
    ⟨(some 246), .binOp .eql 4 (.tmp 244) (.tmp 245) 4, none⟩,
    ⟨(some 247), .move (.tmp 246), none⟩,
    ⟨(some 248), .move (.tmp 26), (some (some 247, true))⟩,
    ⟨(some 249), .move (.tmp 28), (some (some 247, true))⟩,
    ⟨(some 250), .call ⟨.value (.func 19), #[(.tmp 248), (.tmp 249)], #[30, 30]⟩, (some (some 247, true))⟩,
    ⟨(some 251), .pick (.tmp 247) (.tmp 250) (.const (.bool false)), none⟩,
    ⟨(some 252), .move (.tmp 251), none⟩,
    ⟨(some 253), .move (.tmp 31), (some (some 252, true))⟩,
    ⟨(some 254), .move (.tmp 33), (some (some 252, true))⟩,
    ⟨(some 255), .binOp .eql 9 (.tmp 253) (.tmp 254) 9, (some (some 252, true))⟩,
    ⟨(some 256), .pick (.tmp 252) (.tmp 255) (.const (.bool false)), none⟩,
    ⟨(some 257), .move (.tmp 256), none⟩,
    ⟨(some 258), .move (.tmp 32), (some (some 257, true))⟩,
    ⟨(some 259), .move (.tmp 34), (some (some 257, true))⟩,
    ⟨(some 260), .binOp .eql 4 (.tmp 258) (.tmp 259) 4, (some (some 257, true))⟩,
    ⟨(some 261), .pick (.tmp 257) (.tmp 260) (.const (.bool false)), none⟩,
    ⟨(some 2), .assign (.tmp 261), none⟩] [2])
  .ret)))))))))))))))))
theorem laws_FnUses_k : fnOk Tryz.prog (fun i => i == 15) 3 = some (laws_FnUses_c.strip, 262, [.tmp 2]) := by kernel_rfl
/-- loop.example/g01062/laws.rBig: number 4, params [0] -/
def laws_rBig_c : ACode := (.seq (.reg [⟨(some 2), .assign (.const (.bool false)), none⟩] [0])
  (.seq (.reg [⟨(some 3), .move (.tmp 0), none⟩,
    ⟨(some 4), .call ⟨.builtin .len, #[(.tmp 3)], #[22]⟩, none⟩,
    ⟨(some 5), .binOp .gtr 3 (.tmp 4) (.const (.int .i64 65536)) 3, none⟩,
    ⟨(some 2), .assign (.tmp 5), none⟩] [2])
  .ret))
theorem laws_rBig_k : fnOk Tryz.prog (fun _ => false) 4 = some (laws_rBig_c.strip, 6, [.tmp 2]) := by kernel_rfl
/-- loop.example/g01062/impl.ExtendUse: number 6, params [0, 1, 2] -/
def impl_ExtendUse_c : ACode := (.seq (.reg [⟨(some 6), .assign (.const (.slice none 0 0)), none⟩,
    ⟨(some 7), .assign (.const (.int .i64 0)), none⟩,
    ⟨(some 8), .assign (.const (.bool false)), none⟩] [0, 1, 2])
  (.seq (.reg [⟨(some 13), .move (.tmp 0), none⟩,
    ⟨(some 14), .move (.tmp 1), none⟩,
    ⟨(some 15), .call ⟨.value (.func 23), #[(.tmp 13), (.tmp 14)], #[24, 3]⟩, none⟩,
    ⟨(some 9), .assign (.tmp 15), none⟩] [0, 2, 9])
  (.seq (.seq (.reg [⟨(some 16), .move (.tmp 0), none⟩,
    ⟨(some 17), .call ⟨.value (.func 24), #[(.tmp 16)], #[24]⟩, none⟩,
    ⟨(some 18), .unOp .not 4 (.tmp 17), none⟩,
    ⟨(some 19), .move (.tmp 18), none⟩,
    ⟨(some 20), .move (.tmp 9), (some (some 19, false))⟩,
    ⟨(some 21), .binOp .lss 3 (.tmp 20) (.const (.int .i64 0)) 3, (some (some 19, false))⟩,
    ⟨(some 22), .pick (.tmp 19) (.const (.bool true)) (.tmp 21), none⟩,
    ⟨(some 23), .move (.tmp 22), none⟩,
    ⟨(some 24), .move (.tmp 2), (some (some 23, false))⟩,
    ⟨(some 25), .call ⟨.value (.func 25), #[(.tmp 24)], #[3]⟩, (some (some 23, false))⟩,
    ⟨(some 26), .unOp .not 4 (.tmp 25), (some (some 23, false))⟩,
    ⟨(some 27), .pick (.tmp 23) (.const (.bool true)) (.tmp 26), none⟩] [0, 2, 9, 27])
  (.cond (.tmp 27) (.seq (.reg [⟨(some 6), .assign (.const (.slice none 0 0)), none⟩,
    ⟨(some 7), .assign (.const (.int .i64 0)), none⟩,
    ⟨(some 8), .assign (.const (.bool false)), none⟩] [6, 7, 8])
  .ret)
  .skip))
  (.seq (.reg [⟨(some 28), .move (.tmp 0), none⟩,
    ⟨(some 29), .call ⟨.value (.func 26), #[(.tmp 28)], #[24]⟩, none⟩,
    ⟨(some 10), .assign (.tmp 29), none⟩] [2, 9, 10])
  (.seq (.reg [⟨(some 30), .move (.tmp 10), none⟩,
    ⟨(some 31), .move (.tmp 9), none⟩,
    ⟨(some 32), .indexAddr 24 (.tmp 30) (.tmp 31), none⟩,
    ⟨(some 11), .assign (.tmp 32), none⟩] [2, 10, 11])
  (.seq (.regQ [⟨(some 33), .move (.tmp 11), none⟩,
    ⟨(some 34), .nilCheck (.tmp 33), none⟩,
    ⟨(some 35), .fieldAddr 34 (.tmp 34) 4, none⟩,
    ⟨(some 36), .load 3 (.tmp 35), none⟩,
    ⟨(some 37), .move (.tmp 11), none⟩,
    ⟨(some 38), .nilCheck (.tmp 37), none⟩,
    ⟨(some 39), .fieldAddr 34 (.tmp 38) 3, none⟩,
    ⟨(some 40), .load 3 (.tmp 39), none⟩,
    ⟨(some 41), .binOp .sub 3 (.tmp 36) (.tmp 40) 3, none⟩,
    ⟨(some 12), .assign (.tmp 41), none⟩] [2, 10, 11, 12])
  (.seq (.regF []
    [42, 44, 45, 46, 47, 48, 49, 50, 51, 52, 53, 56, 57, 43, 54, 55, 58, 59] []
    [⟨(some 42), .move (.tmp 11), none⟩,
    ⟨(some 44), .move (.tmp 11), none⟩,
    ⟨(some 45), .nilCheck (.tmp 44), none⟩,
    ⟨(some 46), .fieldAddr 34 (.tmp 45) 3, none⟩,
    ⟨(some 47), .load 3 (.tmp 46), none⟩,
    ⟨(some 48), .move (.tmp 2), none⟩,
    ⟨(some 49), .call ⟨.builtin .min, #[(.tmp 47), (.tmp 48)], #[3, 3]⟩, none⟩,
    ⟨(some 50), .move (.tmp 11), none⟩,
    ⟨(some 51), .nilCheck (.tmp 50), none⟩,
    ⟨(some 52), .fieldAddr 34 (.tmp 51) 4, none⟩,
    ⟨(some 53), .load 3 (.tmp 52), none⟩,
    ⟨(some 56), .nilCheck (.tmp 42), none⟩,
    ⟨(some 57), .fieldAddr 34 (.tmp 56) 3, none⟩,
    ⟨none, .store 3 (.tmp 57) (.tmp 49), none⟩,
    ⟨(some 43), .move (.tmp 11), none⟩,
    ⟨(some 54), .move (.tmp 2), none⟩,
    ⟨(some 55), .call ⟨.builtin .max, #[(.tmp 53), (.tmp 54)], #[3, 3]⟩, none⟩,
    ⟨(some 58), .nilCheck (.tmp 43), none⟩,
    ⟨(some 59), .fieldAddr 34 (.tmp 58) 4, none⟩,
    ⟨none, .store 3 (.tmp 59) (.tmp 55), none⟩] [10, 11, 12])
  (.seq (.regQ [⟨(some 60), .move (.tmp 10), none⟩,
    ⟨(some 61), .move (.tmp 11), none⟩,
    ⟨(some 62), .nilCheck (.tmp 61), none⟩,
    ⟨(some 63), .fieldAddr 34 (.tmp 62) 4, none⟩,
    ⟨(some 64), .load 3 (.tmp 63), none⟩,
    ⟨(some 65), .move (.tmp 11), none⟩,
    ⟨(some 66), .nilCheck (.tmp 65), none⟩,
    ⟨(some 67), .fieldAddr 34 (.tmp 66) 3, none⟩,
    ⟨(some 68), .load 3 (.tmp 67), none⟩,
    ⟨(some 69), .binOp .sub 3 (.tmp 64) (.tmp 68) 3, none⟩,
    ⟨(some 70), .move (.tmp 12), none⟩,
    ⟨(some 71), .binOp .sub 3 (.tmp 69) (.tmp 70) 3, none⟩,
    ⟨(some 6), .assign (.tmp 60), none⟩,
    ⟨(some 7), .assign (.tmp 71), none⟩,
    ⟨(some 8), .assign (.const (.bool true)), none⟩] [6, 7, 8])
  .ret))))))))
theorem impl_ExtendUse_k : fnOk Tryz.prog (fun _ => false) 6 = some (impl_ExtendUse_c.strip, 72, [.tmp 6, .tmp 7, .tmp 8]) := by kernel_rfl
/-- loop.example/g01062/spec.ExtendUse: number 7, params [0, 1, 2] -/
def spec_ExtendUse_c : ACode := (.seq (.reg [⟨(some 6), .assign (.const (.slice none 0 0)), none⟩,
    ⟨(some 7), .assign (.const (.int .i64 0)), none⟩,
    ⟨(some 8), .assign (.const (.bool false)), none⟩] [0, 1, 2])
  (.seq (.reg [⟨(some 13), .move (.tmp 0), none⟩,
    ⟨(some 14), .move (.tmp 1), none⟩,
    ⟨(some 15), .call ⟨.value (.func 27), #[(.tmp 13), (.tmp 14)], #[24, 3]⟩, none⟩,
    ⟨(some 9), .assign (.tmp 15), none⟩] [0, 2, 9])
  (.seq (.seq (.reg [⟨(some 16), .move (.tmp 0), none⟩,
    ⟨(some 17), .call ⟨.value (.func 28), #[(.tmp 16)], #[24]⟩, none⟩,
    ⟨(some 18), .unOp .not 4 (.tmp 17), none⟩,
    ⟨(some 19), .move (.tmp 18), none⟩,
    ⟨(some 20), .move (.tmp 9), (some (some 19, false))⟩,
    ⟨(some 21), .binOp .lss 3 (.tmp 20) (.const (.int .i64 0)) 3, (some (some 19, false))⟩,
    ⟨(some 22), .pick (.tmp 19) (.const (.bool true)) (.tmp 21), none⟩,
    ⟨(some 23), .move (.tmp 22), none⟩,
    ⟨(some 24), .move (.tmp 2), (some (some 23, false))⟩,
    ⟨(some 25), .call ⟨.value (.func 29), #[(.tmp 24)], #[3]⟩, (some (some 23, false))⟩,
    ⟨(some 26), .unOp .not 4 (.tmp 25), (some (some 23, false))⟩,
    ⟨(some 27), .pick (.tmp 23) (.const (.bool true)) (.tmp 26), none⟩] [0, 2, 9, 27])
  (.cond (.tmp 27) (.seq (.reg [⟨(some 28), .buildSlice 24 0 #[], none⟩,
    ⟨(some 6), .assign (.tmp 28), none⟩,
    ⟨(some 7), .assign (.const (.int .i64 0)), none⟩,
    ⟨(some 8), .assign (.const (.bool false)), none⟩] [6, 7, 8])
  .ret)
  .skip))
  (.seq (.reg [⟨(some 29), .buildSlice 24 0 #[], none⟩,
    ⟨(some 30), .move (.tmp 0), none⟩,
    ⟨(some 31), .call ⟨.builtin .append, #[(.tmp 29), (.tmp 30)], #[24, 24]⟩, none⟩,
    ⟨(some 10), .assign (.tmp 31), none⟩] [2, 9, 10])
  (.seq (.reg [⟨(some 32), .move (.tmp 10), none⟩,
    ⟨(some 33), .move (.tmp 9), none⟩,
    ⟨(some 34), .indexAddr 24 (.tmp 32) (.tmp 33), none⟩,
    ⟨(some 35), .load 34 (.tmp 34), none⟩,
    ⟨(some 11), .alloc 34, none⟩,
    ⟨none, .store 34 (.tmp 11) (.tmp 35), none⟩] [2, 9, 10, 11])
  (.seq (.regQ [⟨(some 36), .fieldAddr 34 (.tmp 11) 3, none⟩,
    ⟨(some 37), .load 3 (.tmp 36), none⟩,
    ⟨(some 38), .move (.tmp 2), none⟩,
    ⟨(some 39), .binOp .sub 3 (.tmp 37) (.tmp 38) 3, none⟩,
    ⟨(some 40), .call ⟨.value (.func 30), #[(.const (.int .i64 0)), (.tmp 39)], #[3, 3]⟩, none⟩,
    ⟨(some 41), .move (.tmp 2), none⟩,
    ⟨(some 42), .fieldAddr 34 (.tmp 11) 4, none⟩,
    ⟨(some 43), .load 3 (.tmp 42), none⟩,
    ⟨(some 44), .binOp .sub 3 (.tmp 41) (.tmp 43) 3, none⟩,
    ⟨(some 45), .call ⟨.value (.func 30), #[(.const (.int .i64 0)), (.tmp 44)], #[3, 3]⟩, none⟩,
    ⟨(some 46), .binOp .add 3 (.tmp 40) (.tmp 45) 3, none⟩,
    ⟨(some 12), .assign (.tmp 46), none⟩] [2, 9, 10, 11, 12])
  (.seq (.reg [⟨(some 47), .fieldAddr 34 (.tmp 11) 3, none⟩,
    ⟨(some 48), .load 3 (.tmp 47), none⟩,
    ⟨(some 49), .move (.tmp 2), none⟩,
    ⟨(some 50), .call ⟨.value (.func 31), #[(.tmp 48), (.tmp 49)], #[3, 3]⟩, none⟩,
    ⟨(some 51), .fieldAddr 34 (.tmp 11) 3, none⟩,
    ⟨none, .store 3 (.tmp 51) (.tmp 50), none⟩] [2, 9, 10, 11, 12])
  (.seq (.reg [⟨(some 52), .fieldAddr 34 (.tmp 11) 4, none⟩,
    ⟨(some 53), .load 3 (.tmp 52), none⟩,
    ⟨(some 54), .move (.tmp 2), none⟩,
    ⟨(some 55), .call ⟨.value (.func 30), #[(.tmp 53), (.tmp 54)], #[3, 3]⟩, none⟩,
    ⟨(some 56), .fieldAddr 34 (.tmp 11) 4, none⟩,
    ⟨none, .store 3 (.tmp 56) (.tmp 55), none⟩] [9, 10, 11, 12])
  (.seq (.reg [⟨(some 57), .move (.tmp 10), none⟩,
    ⟨(some 58), .move (.tmp 9), none⟩,
    ⟨(some 59), .load 34 (.tmp 11), none⟩,
    ⟨(some 60), .indexAddr 24 (.tmp 57) (.tmp 58), none⟩,
    ⟨none, .store 34 (.tmp 60) (.tmp 59), none⟩] [10, 12])
  (.seq (.reg [⟨(some 61), .move (.tmp 10), none⟩,
    ⟨(some 62), .move (.tmp 12), none⟩,
    ⟨(some 6), .assign (.tmp 61), none⟩,
    ⟨(some 7), .assign (.tmp 62), none⟩,
    ⟨(some 8), .assign (.const (.bool true)), none⟩] [6, 7, 8])
  .ret))))))))))
theorem spec_ExtendUse_k : fnOk Tryz.prog (fun _ => false) 7 = some (spec_ExtendUse_c.strip, 63, [.tmp 6, .tmp 7, .tmp 8]) := by kernel_rfl
/-- head: [0, 1, 5] -/
def laws_rMarks_l0 : ACode := (.seq (.seq (.reg [⟨(some 11), .move (.tmp 5), none⟩,
    ⟨(some 12), .move (.tmp 0), none⟩,
    ⟨(some 13), .call ⟨.builtin .len, #[(.tmp 12)], #[24]⟩, none⟩,
    ⟨(some 14), .binOp .lss 3 (.tmp 11) (.tmp 13) 3, none⟩] [0, 1, 5, 14])
  (.cond (.tmp 14) .skip
  (.exit 0)))
  (.seq (.block 1 (.seq (.regQ [⟨(some 17), .move (.tmp 0), none⟩,
    ⟨(some 18), .move (.tmp 5), none⟩,
    ⟨(some 19), .indexAddr 24 (.tmp 17) (.tmp 18), none⟩,
    ⟨(some 20), .load 34 (.tmp 19), none⟩,
    ⟨(some 21), .move (.tmp 1), none⟩,
    ⟨(some 22), .move (.tmp 5), none⟩,
    ⟨(some 23), .indexAddr 24 (.tmp 21) (.tmp 22), none⟩,
    ⟨(some 24), .load 34 (.tmp 23), none⟩,
    ⟨(some 25), .binOp .neq 34 (.tmp 20) (.tmp 24) 34, none⟩] [0, 1, 5, 25])
  (.cond (.tmp 25) (.seq (.reg [⟨(some 4), .assign (.const (.bool false)), none⟩] [4])
  .ret)
  .skip)))
  (.reg [⟨(some 15), .move (.tmp 5), none⟩,
    ⟨(some 16), .binOp .add 3 (.tmp 15) (.const (.int .i64 1)) 3, none⟩,
    ⟨(some 5), .assign (.tmp 16), none⟩] [0, 1, 5])))
/-- loop.example/g01062/laws.rMarks: number 8, params [0, 1] -/
def laws_rMarks_c : ACode := (.seq (.reg [⟨(some 4), .assign (.const (.bool false)), none⟩] [0, 1])
  (.seq (.seq (.reg [⟨(some 6), .move (.tmp 0), none⟩,
    ⟨(some 7), .call ⟨.builtin .len, #[(.tmp 6)], #[24]⟩, none⟩,
    ⟨(some 8), .move (.tmp 1), none⟩,
    ⟨(some 9), .call ⟨.builtin .len, #[(.tmp 8)], #[24]⟩, none⟩,
    ⟨(some 10), .binOp .neq 3 (.tmp 7) (.tmp 9) 3, none⟩] [0, 1, 10])
  (.cond (.tmp 10) (.seq (.reg [⟨(some 4), .assign (.const (.bool false)), none⟩] [4])
  .ret)
  .skip))
  (.seq (.seq (.reg [⟨(some 5), .assign (.const (.int .i64 0)), none⟩] [0, 1, 5])
  (.block 0 (.loop laws_rMarks_l0)))
  (.seq (.reg [⟨(some 4), .assign (.const (.bool true)), none⟩] [4])
  .ret))))
theorem laws_rMarks_k : fnOk Tryz.prog (fun _ => false) 8 = some (laws_rMarks_c.strip, 26, [.tmp 4]) := by kernel_rfl
/-- head: [1, 6, 17, 18, 19] -/
def impl_TownsOn_l0 : ACode := (.seq (.reg [⟨(some 20), .binOp .lss 3 (.tmp 19) (.tmp 18) 3, none⟩] [1, 6, 17, 18, 19, 20])
  (.seq (.cond (.tmp 20) .skip
  (.exit 0))
  (.seq (.block 1 (.seq (.reg [⟨(some 21), .indexAddr 24 (.tmp 17) (.tmp 19), none⟩,
    ⟨(some 22), .load 34 (.tmp 21), none⟩,
    ⟨(some 8), .alloc 34, none⟩,
    ⟨none, .store 34 (.tmp 8) (.tmp 22), none⟩] [1, 6, 8, 17, 18, 19])
  (.seq (.reg [⟨(some 23), .move (.tmp 1), none⟩,
    ⟨(some 24), .fieldAddr 34 (.tmp 8) 3, none⟩,
    ⟨(some 25), .load 3 (.tmp 24), none⟩,
    ⟨(some 26), .fieldAddr 34 (.tmp 8) 4, none⟩,
    ⟨(some 27), .load 3 (.tmp 26), none⟩,
    ⟨(some 28), .call ⟨.value (.func 32), #[(.tmp 23), (.tmp 25), (.tmp 27)], #[3, 3, 3]⟩, none⟩] [1, 6, 8, 17, 18, 19, 28])
  (.cond (.tmp 28) (.reg [⟨(some 29), .move (.tmp 6), none⟩,
    ⟨(some 30), .fieldAddr 34 (.tmp 8) 1, none⟩,
    ⟨(some 31), .load 9 (.tmp 30), none⟩,
    ⟨(some 32), .buildSlice 30 1 #[(0, (.tmp 31))], none⟩,
    ⟨(some 33), .call ⟨.builtin .append, #[(.tmp 29), (.tmp 32)], #[30, 30]⟩, none⟩,
    ⟨(some 6), .assign (.tmp 33), none⟩] [1, 6, 17, 18, 19])
  .skip))))
  (.reg [⟨(some 34), .binOp .add 3 (.tmp 19) (.const (.int .i64 1)) 3, none⟩,
    ⟨(some 19), .move (.tmp 34), none⟩] [1, 6, 17, 18, 19]))))
/-- loop.example/g01062/impl.TownsOn: number 9, params [0, 1] -/
def impl_TownsOn_c : ACode := (.seq (.reg [⟨(some 4), .assign (.const (.slice none 0 0)), none⟩,
    ⟨(some 5), .assign (.const (.bool false)), none⟩] [0, 1])
  (.seq (.seq (.reg [⟨(some 9), .move (.tmp 0), none⟩,
    ⟨(some 10), .call ⟨.value (.func 24), #[(.tmp 9)], #[24]⟩, none⟩,
    ⟨(some 11), .unOp .not 4 (.tmp 10), none⟩,
    ⟨(some 12), .move (.tmp 11), none⟩,
    ⟨(some 13), .move (.tmp 1), (some (some 12, false))⟩,
    ⟨(some 14), .call ⟨.value (.func 25), #[(.tmp 13)], #[3]⟩, (some (some 12, false))⟩,
    ⟨(some 15), .unOp .not 4 (.tmp 14), (some (some 12, false))⟩,
    ⟨(some 16), .pick (.tmp 12) (.const (.bool true)) (.tmp 15), none⟩] [0, 1, 16])
  (.cond (.tmp 16) (.seq (.reg [⟨(some 4), .assign (.const (.slice none 0 0)), none⟩,
    ⟨(some 5), .assign (.const (.bool false)), none⟩] [4, 5])
  .ret)
  .skip))
  (.seq (.reg [⟨(some 6), .assign (.const (.slice none 0 0)), none⟩] [0, 1, 6])
  (.seq (.seq (.reg [⟨(some 17), .move (.tmp 0), none⟩,
    ⟨(some 18), .call ⟨.builtin .len, #[(.tmp 17)], #[24]⟩, none⟩,
    ⟨(some 19), .move (.const (.int .i64 0)), none⟩] [1, 6, 17, 18, 19])
  (.block 0 (.loop impl_TownsOn_l0)))
  (.seq (.reg [⟨(some 35), .move (.tmp 6), none⟩,
    ⟨(some 36), .call ⟨.value (.func 33), #[(.tmp 35)], #[30]⟩, none⟩] [6])
  (.seq (.reg [⟨(some 37), .move (.tmp 6), none⟩,
    ⟨(some 38), .call ⟨.value (.func 34), #[(.tmp 37)], #[30]⟩, none⟩,
    ⟨(some 4), .assign (.tmp 38), none⟩,
    ⟨(some 5), .assign (.const (.bool true)), none⟩] [4, 5])
  .ret))))))
theorem impl_TownsOn_k : fnOk Tryz.prog (fun _ => false) 9 = some (impl_TownsOn_c.strip, 39, [.tmp 4, .tmp 5]) := by kernel_rfl
/-- head: [0, 1, 5] -/
def laws_rHasText_l0 : ACode := (.seq (.seq (.reg [⟨(some 6), .move (.tmp 5), none⟩,
    ⟨(some 7), .move (.tmp 0), none⟩,
    ⟨(some 8), .call ⟨.builtin .len, #[(.tmp 7)], #[30]⟩, none⟩,
    ⟨(some 9), .binOp .lss 3 (.tmp 6) (.tmp 8) 3, none⟩] [0, 1, 5, 9])
  (.cond (.tmp 9) .skip
  (.exit 0)))
  (.seq (.block 1 (.seq (.reg [⟨(some 12), .move (.tmp 0), none⟩,
    ⟨(some 13), .move (.tmp 5), none⟩,
    ⟨(some 14), .indexAddr 30 (.tmp 12) (.tmp 13), none⟩,
    ⟨(some 15), .load 9 (.tmp 14), none⟩,
    ⟨(some 16), .move (.tmp 1), none⟩,
    ⟨(some 17), .binOp .eql 9 (.tmp 15) (.tmp 16) 9, none⟩] [0, 1, 5, 17])
  (.cond (.tmp 17) (.seq (.reg [⟨(some 4), .assign (.const (.bool true)), none⟩] [4])
  .ret)
  .skip)))
  (.reg [⟨(some 10), .move (.tmp 5), none⟩,
    ⟨(some 11), .binOp .add 3 (.tmp 10) (.const (.int .i64 1)) 3, none⟩,
    ⟨(some 5), .assign (.tmp 11), none⟩] [0, 1, 5])))
/-- loop.example/g01062/laws.rHasText: number 10, params [0, 1] -/
def laws_rHasText_c : ACode := (.seq (.reg [⟨(some 4), .assign (.const (.bool false)), none⟩] [0, 1])
  (.seq (.seq (.reg [⟨(some 5), .assign (.const (.int .i64 0)), none⟩] [0, 1, 5])
  (.block 0 (.loop laws_rHasText_l0)))
  (.seq (.reg [⟨(some 4), .assign (.const (.bool false)), none⟩] [4])
  .ret)))
theorem laws_rHasText_k : fnOk Tryz.prog (fun _ => false) 10 = some (laws_rHasText_c.strip, 18, [.tmp 4]) := by kernel_rfl
/-- head: [1, 6, 7, 8, 10, 11, 23, 24, 25] -/
def impl_GapBetween_l0 : ACode := (.seq (.seq (.reg [⟨(some 43), .move (.tmp 11), none⟩,
    ⟨(some 44), .fieldAddr 34 (.tmp 10) 4, none⟩,
    ⟨(some 45), .load 3 (.tmp 44), none⟩,
    ⟨(some 46), .binOp .leq 3 (.tmp 43) (.tmp 45) 3, none⟩] [1, 6, 7, 8, 10, 11, 23, 24, 25, 46])
  (.cond (.tmp 46) .skip
  (.exit 2)))
  (.seq (.block 3 (.reg [⟨(some 49), .move (.tmp 6), none⟩,
    ⟨(some 50), .move (.tmp 11), none⟩,
    ⟨(some 51), .indexAddr 62 (.tmp 49) (.tmp 50), none⟩,
    ⟨none, .store 4 (.tmp 51) (.const (.bool true)), none⟩] [1, 6, 7, 8, 10, 11, 23, 24, 25]))
  (.reg [⟨(some 47), .move (.tmp 11), none⟩,
    ⟨(some 48), .binOp .add 3 (.tmp 47) (.const (.int .i64 1)) 3, none⟩,
    ⟨(some 11), .assign (.tmp 48), none⟩] [1, 6, 7, 8, 10, 11, 23, 24, 25])))
/-- head: [1, 6, 7, 8, 23, 24, 25] -/
def impl_GapBetween_l1 : ACode := (.seq (.reg [⟨(some 26), .binOp .lss 3 (.tmp 25) (.tmp 24) 3, none⟩] [1, 6, 7, 8, 23, 24, 25, 26])
  (.seq (.cond (.tmp 26) .skip
  (.exit 0))
  (.seq (.block 1 (.seq (.reg [⟨(some 27), .indexAddr 24 (.tmp 23) (.tmp 25), none⟩,
    ⟨(some 28), .load 34 (.tmp 27), none⟩,
    ⟨(some 10), .alloc 34, none⟩,
    ⟨none, .store 34 (.tmp 10) (.tmp 28), none⟩] [1, 6, 7, 8, 10, 23, 24, 25])
  (.seq (.seq (.reg [⟨(some 29), .fieldAddr 34 (.tmp 10) 1, none⟩,
    ⟨(some 30), .load 9 (.tmp 29), none⟩,
    ⟨(some 31), .move (.tmp 1), none⟩,
    ⟨(some 32), .binOp .neq 9 (.tmp 30) (.tmp 31) 9, none⟩] [1, 6, 7, 8, 10, 23, 24, 25, 32])
  (.cond (.tmp 32) (.exit 1)
  .skip))
  (.seq (.regQ [⟨(some 33), .move (.tmp 7), none⟩,
    ⟨(some 34), .fieldAddr 34 (.tmp 10) 3, none⟩,
    ⟨(some 35), .load 3 (.tmp 34), none⟩,
    ⟨(some 36), .call ⟨.builtin .min, #[(.tmp 33), (.tmp 35)], #[3, 3]⟩, none⟩,
    ⟨(some 37), .move (.tmp 8), none⟩,
    ⟨(some 38), .fieldAddr 34 (.tmp 10) 4, none⟩,
    ⟨(some 39), .load 3 (.tmp 38), none⟩,
    ⟨(some 40), .call ⟨.builtin .max, #[(.tmp 37), (.tmp 39)], #[3, 3]⟩, none⟩,
    ⟨(some 7), .assign (.tmp 36), none⟩,
    ⟨(some 8), .assign (.tmp 40), none⟩] [1, 6, 7, 8, 10, 23, 24, 25])
  (.seq (.reg [⟨(some 41), .fieldAddr 34 (.tmp 10) 3, none⟩,
    ⟨(some 42), .load 3 (.tmp 41), none⟩,
    ⟨(some 11), .assign (.tmp 42), none⟩] [1, 6, 7, 8, 10, 11, 23, 24, 25])
  (.block 2 (.loop impl_GapBetween_l0)))))))
  (.reg [⟨(some 52), .binOp .add 3 (.tmp 25) (.const (.int .i64 1)) 3, none⟩,
    ⟨(some 25), .move (.tmp 52), none⟩] [1, 6, 7, 8, 23, 24, 25]))))
/-- head: [6, 8, 12, 13] -/
def impl_GapBetween_l2 : ACode := (.seq (.seq (.reg [⟨(some 56), .move (.tmp 13), none⟩,
    ⟨(some 57), .move (.tmp 8), none⟩,
    ⟨(some 58), .binOp .leq 3 (.tmp 56) (.tmp 57) 3, none⟩] [6, 8, 12, 13, 58])
  (.cond (.tmp 58) .skip
  (.exit 4)))
  (.seq (.block 5 (.seq (.reg [⟨(some 61), .move (.tmp 6), none⟩,
    ⟨(some 62), .move (.tmp 13), none⟩,
    ⟨(some 63), .indexAddr 62 (.tmp 61) (.tmp 62), none⟩,
    ⟨(some 64), .load 4 (.tmp 63), none⟩,
    ⟨(some 65), .unOp .not 4 (.tmp 64), none⟩] [6, 8, 12, 13, 65])
  (.cond (.tmp 65) (.reg [⟨(some 66), .move (.tmp 12), none⟩,
    ⟨(some 67), .binOp .add 3 (.tmp 66) (.const (.int .i64 1)) 3, none⟩,
    ⟨(some 12), .assign (.tmp 67), none⟩] [6, 8, 12, 13])
  .skip)))
  (.reg [⟨(some 59), .move (.tmp 13), none⟩,
    ⟨(some 60), .binOp .add 3 (.tmp 59) (.const (.int .i64 1)) 3, none⟩,
    ⟨(some 13), .assign (.tmp 60), none⟩] [6, 8, 12, 13])))
/-- loop.example/g01062/impl.GapBetween: number 12, params [0, 1] -/
def impl_GapBetween_c : ACode := (.seq (.reg [⟨(some 4), .assign (.const (.int .i64 0)), none⟩,
    ⟨(some 5), .assign (.const (.bool false)), none⟩] [0, 1])
  (.seq (.seq (.reg [⟨(some 14), .move (.tmp 0), none⟩,
    ⟨(some 15), .call ⟨.value (.func 24), #[(.tmp 14)], #[24]⟩, none⟩,
    ⟨(some 16), .unOp .not 4 (.tmp 15), none⟩,
    ⟨(some 17), .move (.tmp 16), none⟩,
    ⟨(some 18), .move (.tmp 1), (some (some 17, false))⟩,
    ⟨(some 19), .call ⟨.value (.func 36), #[(.tmp 18)], #[9]⟩, (some (some 17, false))⟩,
    ⟨(some 20), .unOp .not 4 (.tmp 19), (some (some 17, false))⟩,
    ⟨(some 21), .pick (.tmp 17) (.const (.bool true)) (.tmp 20), none⟩] [0, 1, 21])
  (.cond (.tmp 21) (.seq (.reg [⟨(some 4), .assign (.const (.int .i64 0)), none⟩,
    ⟨(some 5), .assign (.const (.bool false)), none⟩] [4, 5])
  .ret)
  .skip))
  (.seq (.reg [⟨(some 22), .makeSlice 62 (.const (.int .i64 4001)) (.const (.int .i64 4001)), none⟩,
    ⟨(some 6), .assign (.tmp 22), none⟩] [0, 1, 6])
  (.seq (.reg [⟨(some 7), .assign (.const (.int .i64 4001)), none⟩,
    ⟨(some 8), .assign (.const (.int .i64 (-1))), none⟩] [0, 1, 6, 7, 8])
  (.seq (.seq (.reg [⟨(some 23), .move (.tmp 0), none⟩,
    ⟨(some 24), .call ⟨.builtin .len, #[(.tmp 23)], #[24]⟩, none⟩,
    ⟨(some 25), .move (.const (.int .i64 0)), none⟩] [1, 6, 7, 8, 23, 24, 25])
  (.block 0 (.loop impl_GapBetween_l1)))
  (.seq (.seq (.reg [⟨(some 53), .move (.tmp 8), none⟩,
    ⟨(some 54), .binOp .lss 3 (.tmp 53) (.const (.int .i64 0)) 3, none⟩] [6, 7, 8, 54])
  (.cond (.tmp 54) (.seq (.reg [⟨(some 4), .assign (.const (.int .i64 0)), none⟩,
    ⟨(some 5), .assign (.const (.bool false)), none⟩] [4, 5])
  .ret)
  .skip))
  (.seq (.reg [⟨(some 12), .assign (.const (.int .i64 0)), none⟩] [6, 7, 8, 12])
  (.seq (.seq (.reg [⟨(some 55), .move (.tmp 7), none⟩,
    ⟨(some 13), .assign (.tmp 55), none⟩] [6, 8, 12, 13])
  (.block 4 (.loop impl_GapBetween_l2)))
  (.seq (.reg [⟨(some 68), .move (.tmp 12), none⟩,
    ⟨(some 4), .assign (.tmp 68), none⟩,
    ⟨(some 5), .assign (.const (.bool true)), none⟩] [4, 5])
  .ret)))))))))
theorem impl_GapBetween_k : fnOk Tryz.prog (fun _ => false) 12 = some (impl_GapBetween_c.strip, 69, [.tmp 4, .tmp 5]) := by kernel_rfl
/-- head: [0, 1, 6, 7, 8] -/
def spec_GapBetween_l0 : ACode := (.seq (.seq (.reg [⟨(some 21), .move (.tmp 8), none⟩,
    ⟨(some 22), .move (.tmp 0), none⟩,
    ⟨(some 23), .call ⟨.builtin .len, #[(.tmp 22)], #[24]⟩, none⟩,
    ⟨(some 24), .binOp .lss 3 (.tmp 21) (.tmp 23) 3, none⟩] [0, 1, 6, 7, 8, 24])
  (.cond (.tmp 24) .skip
  (.exit 0)))
  (.seq (.block 1 (.seq (.reg [⟨(some 27), .move (.tmp 0), none⟩,
    ⟨(some 28), .move (.tmp 8), none⟩,
    ⟨(some 29), .indexAddr 24 (.tmp 27) (.tmp 28), none⟩,
    ⟨(some 30), .fieldAddr 34 (.tmp 29) 1, none⟩,
    ⟨(some 31), .load 9 (.tmp 30), none⟩,
    ⟨(some 32), .move (.tmp 1), none⟩,
    ⟨(some 33), .binOp .eql 9 (.tmp 31) (.tmp 32) 9, none⟩] [0, 1, 6, 7, 8, 33])
  (.cond (.tmp 33) (.seq (.reg [⟨(some 34), .move (.tmp 6), none⟩,
    ⟨(some 35), .move (.tmp 0), none⟩,
    ⟨(some 36), .move (.tmp 8), none⟩,
    ⟨(some 37), .indexAddr 24 (.tmp 35) (.tmp 36), none⟩,
    ⟨(some 38), .fieldAddr 34 (.tmp 37) 3, none⟩,
    ⟨(some 39), .load 3 (.tmp 38), none⟩,
    ⟨(some 40), .call ⟨.value (.func 31), #[(.tmp 34), (.tmp 39)], #[3, 3]⟩, none⟩,
    ⟨(some 6), .assign (.tmp 40), none⟩] [0, 1, 6, 7, 8])
  (.reg [⟨(some 41), .move (.tmp 7), none⟩,
    ⟨(some 42), .move (.tmp 0), none⟩,
    ⟨(some 43), .move (.tmp 8), none⟩,
    ⟨(some 44), .indexAddr 24 (.tmp 42) (.tmp 43), none⟩,
    ⟨(some 45), .fieldAddr 34 (.tmp 44) 4, none⟩,
    ⟨(some 46), .load 3 (.tmp 45), none⟩,
    ⟨(some 47), .call ⟨.value (.func 30), #[(.tmp 41), (.tmp 46)], #[3, 3]⟩, none⟩,
    ⟨(some 7), .assign (.tmp 47), none⟩] [0, 1, 6, 7, 8]))
  .skip)))
  (.reg [⟨(some 25), .move (.tmp 8), none⟩,
    ⟨(some 26), .binOp .add 3 (.tmp 25) (.const (.int .i64 1)) 3, none⟩,
    ⟨(some 8), .assign (.tmp 26), none⟩] [0, 1, 6, 7, 8])))
/-- head: [0, 1, 7, 9, 10, 11, 12] -/
def spec_GapBetween_l1 : ACode := (.seq (.seq (.reg [⟨(some 56), .move (.tmp 12), none⟩,
    ⟨(some 57), .move (.tmp 0), none⟩,
    ⟨(some 58), .call ⟨.builtin .len, #[(.tmp 57)], #[24]⟩, none⟩,
    ⟨(some 59), .binOp .lss 3 (.tmp 56) (.tmp 58) 3, none⟩] [0, 1, 7, 9, 10, 11, 12, 59])
  (.cond (.tmp 59) .skip
  (.exit 4)))
  (.seq (.block 5 (.reg [⟨(some 62), .move (.tmp 11), none⟩,
    ⟨(some 63), .move (.tmp 62), none⟩,
    ⟨(some 64), .move (.tmp 0), (some (some 63, false))⟩,
    ⟨(some 65), .move (.tmp 12), (some (some 63, false))⟩,
    ⟨(some 66), .indexAddr 24 (.tmp 64) (.tmp 65), (some (some 63, false))⟩,
    ⟨(some 67), .fieldAddr 34 (.tmp 66) 1, (some (some 63, false))⟩,
    ⟨(some 68), .load 9 (.tmp 67), (some (some 63, false))⟩,
    ⟨(some 69), .move (.tmp 1), (some (some 63, false))⟩,
    ⟨(some 70), .binOp .eql 9 (.tmp 68) (.tmp 69) 9, (some (some 63, false))⟩,
    ⟨(some 71), .move (.tmp 70), (some (some 63, false))⟩,
    ⟨(some 72), .move (.tmp 0), (some (some 71, true))⟩,
    ⟨(some 73), .move (.tmp 12), (some (some 71, true))⟩,
    ⟨(some 74), .indexAddr 24 (.tmp 72) (.tmp 73), (some (some 71, true))⟩,
    ⟨(some 75), .load 34 (.tmp 74), (some (some 71, true))⟩,
    ⟨(some 76), .move (.tmp 10), (some (some 71, true))⟩,
    ⟨(some 77), .call ⟨.value (.func 38), #[(.tmp 75), (.tmp 76)], #[34, 3]⟩, (some (some 71, true))⟩,
    ⟨(some 78), .pick (.tmp 71) (.tmp 77) (.const (.bool false)), (some (some 63, false))⟩,
    ⟨(some 79), .pick (.tmp 63) (.const (.bool true)) (.tmp 78), none⟩,
    ⟨(some 11), .assign (.tmp 79), none⟩] [0, 1, 7, 9, 10, 11, 12]))
  (.reg [⟨(some 60), .move (.tmp 12), none⟩,
    ⟨(some 61), .binOp .add 3 (.tmp 60) (.const (.int .i64 1)) 3, none⟩,
    ⟨(some 12), .assign (.tmp 61), none⟩] [0, 1, 7, 9, 10, 11, 12])))
/-- head: [0, 1, 7, 9, 10] -/
def spec_GapBetween_l2 : ACode := (.seq (.seq (.reg [⟨(some 51), .move (.tmp 10), none⟩,
    ⟨(some 52), .move (.tmp 7), none⟩,
    ⟨(some 53), .binOp .leq 3 (.tmp 51) (.tmp 52) 3, none⟩] [0, 1, 7, 9, 10, 53])
  (.cond (.tmp 53) .skip
  (.exit 2)))
  (.seq (.block 3 (.seq (.reg [⟨(some 11), .assign (.const (.bool false)), none⟩] [0, 1, 7, 9, 10, 11])
  (.seq (.seq (.reg [⟨(some 12), .assign (.const (.int .i64 0)), none⟩] [0, 1, 7, 9, 10, 11, 12])
  (.block 4 (.loop spec_GapBetween_l1)))
  (.seq (.reg [⟨(some 80), .move (.tmp 11), none⟩,
    ⟨(some 81), .unOp .not 4 (.tmp 80), none⟩] [0, 1, 7, 9, 10, 81])
  (.cond (.tmp 81) (.reg [⟨(some 82), .move (.tmp 9), none⟩,
    ⟨(some 83), .binOp .add 3 (.tmp 82) (.const (.int .i64 1)) 3, none⟩,
    ⟨(some 9), .assign (.tmp 83), none⟩] [0, 1, 7, 9, 10])
  .skip)))))
  (.reg [⟨(some 54), .move (.tmp 10), none⟩,
    ⟨(some 55), .binOp .add 3 (.tmp 54) (.const (.int .i64 1)) 3, none⟩,
    ⟨(some 10), .assign (.tmp 55), none⟩] [0, 1, 7, 9, 10])))
/-- loop.example/g01062/spec.GapBetween: number 13, params [0, 1] -/
def spec_GapBetween_c : ACode := (.seq (.reg [⟨(some 4), .assign (.const (.int .i64 0)), none⟩,
    ⟨(some 5), .assign (.const (.bool false)), none⟩] [0, 1])
  (.seq (.seq (.reg [⟨(some 13), .move (.tmp 0), none⟩,
    ⟨(some 14), .call ⟨.value (.func 28), #[(.tmp 13)], #[24]⟩, none⟩,
    ⟨(some 15), .unOp .not 4 (.tmp 14), none⟩,
    ⟨(some 16), .move (.tmp 15), none⟩,
    ⟨(some 17), .move (.tmp 1), (some (some 16, false))⟩,
    ⟨(some 18), .call ⟨.value (.func 37), #[(.tmp 17)], #[9]⟩, (some (some 16, false))⟩,
    ⟨(some 19), .unOp .not 4 (.tmp 18), (some (some 16, false))⟩,
    ⟨(some 20), .pick (.tmp 16) (.const (.bool true)) (.tmp 19), none⟩] [0, 1, 20])
  (.cond (.tmp 20) (.seq (.reg [⟨(some 4), .assign (.const (.int .i64 0)), none⟩,
    ⟨(some 5), .assign (.const (.bool false)), none⟩] [4, 5])
  .ret)
  .skip))
  (.seq (.reg [⟨(some 6), .assign (.const (.int .i64 4000)), none⟩,
    ⟨(some 7), .assign (.const (.int .i64 (-1))), none⟩] [0, 1, 6, 7])
  (.seq (.seq (.reg [⟨(some 8), .assign (.const (.int .i64 0)), none⟩] [0, 1, 6, 7, 8])
  (.block 0 (.loop spec_GapBetween_l0)))
  (.seq (.seq (.reg [⟨(some 48), .move (.tmp 7), none⟩,
    ⟨(some 49), .binOp .lss 3 (.tmp 48) (.const (.int .i64 0)) 3, none⟩] [0, 1, 6, 7, 49])
  (.cond (.tmp 49) (.seq (.reg [⟨(some 4), .assign (.const (.int .i64 0)), none⟩,
    ⟨(some 5), .assign (.const (.bool false)), none⟩] [4, 5])
  .ret)
  .skip))
  (.seq (.reg [⟨(some 9), .assign (.const (.int .i64 0)), none⟩] [0, 1, 6, 7, 9])
  (.seq (.seq (.reg [⟨(some 50), .move (.tmp 6), none⟩,
    ⟨(some 10), .assign (.tmp 50), none⟩] [0, 1, 7, 9, 10])
  (.block 2 (.loop spec_GapBetween_l2)))
  (.seq (.reg [⟨(some 84), .move (.tmp 9), none⟩,
    ⟨(some 4), .assign (.tmp 84), none⟩,
    ⟨(some 5), .assign (.const (.bool true)), none⟩] [4, 5])
  .ret))))))))
theorem spec_GapBetween_k : fnOk Tryz.prog (fun _ => false) 13 = some (spec_GapBetween_c.strip, 85, [.tmp 4, .tmp 5]) := by kernel_rfl
/-- head: [0, 1, 6, 7, 8, 9, 10, 11] -/
def spec_TownsOn_l0 : ACode := (.seq (.seq (.reg [⟨(some 42), .move (.tmp 11), none⟩,
    ⟨(some 43), .move (.tmp 6), none⟩,
    ⟨(some 44), .call ⟨.builtin .len, #[(.tmp 43)], #[30]⟩, none⟩,
    ⟨(some 45), .binOp .lss 3 (.tmp 42) (.tmp 44) 3, none⟩] [0, 1, 6, 7, 8, 9, 10, 11, 45])
  (.cond (.tmp 45) .skip
  (.exit 2)))
  (.seq (.block 3 (.reg [⟨(some 48), .move (.tmp 10), none⟩,
    ⟨(some 49), .move (.tmp 48), none⟩,
    ⟨(some 50), .move (.tmp 6), (some (some 49, false))⟩,
    ⟨(some 51), .move (.tmp 11), (some (some 49, false))⟩,
    ⟨(some 52), .indexAddr 30 (.tmp 50) (.tmp 51), (some (some 49, false))⟩,
    ⟨(some 53), .load 9 (.tmp 52), (some (some 49, false))⟩,
    ⟨(some 54), .move (.tmp 8), (some (some 49, false))⟩,
    ⟨(some 55), .binOp .eql 9 (.tmp 53) (.tmp 54) 9, (some (some 49, false))⟩,
    ⟨(some 56), .pick (.tmp 49) (.const (.bool true)) (.tmp 55), none⟩,
    ⟨(some 10), .assign (.tmp 56), none⟩] [0, 1, 6, 7, 8, 9, 10, 11]))
  (.reg [⟨(some 46), .move (.tmp 11), none⟩,
    ⟨(some 47), .binOp .add 3 (.tmp 46) (.const (.int .i64 1)) 3, none⟩,
    ⟨(some 11), .assign (.tmp 47), none⟩] [0, 1, 6, 7, 8, 9, 10, 11])))
/-- head: [0, 1, 6, 7, 8, 9, 10] -/
def spec_TownsOn_l1 : ACode := (.seq (.seq (.reg [⟨(some 57), .move (.tmp 9), none⟩,
    ⟨(some 58), .binOp .gtr 3 (.tmp 57) (.const (.int .i64 0)) 3, none⟩,
    ⟨(some 59), .move (.tmp 58), none⟩,
    ⟨(some 60), .move (.tmp 8), (some (some 59, true))⟩,
    ⟨(some 61), .move (.tmp 6), (some (some 59, true))⟩,
    ⟨(some 62), .move (.tmp 9), (some (some 59, true))⟩,
    ⟨(some 63), .binOp .sub 3 (.tmp 62) (.const (.int .i64 1)) 3, (some (some 59, true))⟩,
    ⟨(some 64), .indexAddr 30 (.tmp 61) (.tmp 63), (some (some 59, true))⟩,
    ⟨(some 65), .load 9 (.tmp 64), (some (some 59, true))⟩,
    ⟨(some 66), .binOp .lss 9 (.tmp 60) (.tmp 65) 9, (some (some 59, true))⟩,
    ⟨(some 67), .pick (.tmp 59) (.tmp 66) (.const (.bool false)), none⟩] [0, 1, 6, 7, 8, 9, 10, 67])
  (.cond (.tmp 67) .skip
  (.exit 4)))
  (.block 5 (.reg [⟨(some 68), .move (.tmp 9), none⟩,
    ⟨(some 69), .binOp .sub 3 (.tmp 68) (.const (.int .i64 1)) 3, none⟩,
    ⟨(some 9), .assign (.tmp 69), none⟩] [0, 1, 6, 7, 8, 9, 10])))
/-- head: [0, 1, 6, 7] -/
def spec_TownsOn_l2 : ACode := (.seq (.seq (.reg [⟨(some 22), .move (.tmp 7), none⟩,
    ⟨(some 23), .move (.tmp 0), none⟩,
    ⟨(some 24), .call ⟨.builtin .len, #[(.tmp 23)], #[24]⟩, none⟩,
    ⟨(some 25), .binOp .lss 3 (.tmp 22) (.tmp 24) 3, none⟩] [0, 1, 6, 7, 25])
  (.cond (.tmp 25) .skip
  (.exit 0)))
  (.seq (.block 1 (.seq (.reg [⟨(some 28), .move (.tmp 0), none⟩,
    ⟨(some 29), .move (.tmp 7), none⟩,
    ⟨(some 30), .indexAddr 24 (.tmp 28) (.tmp 29), none⟩,
    ⟨(some 31), .fieldAddr 34 (.tmp 30) 1, none⟩,
    ⟨(some 32), .load 9 (.tmp 31), none⟩,
    ⟨(some 8), .assign (.tmp 32), none⟩] [0, 1, 6, 7, 8])
  (.seq (.reg [⟨(some 33), .move (.tmp 6), none⟩,
    ⟨(some 34), .call ⟨.builtin .len, #[(.tmp 33)], #[30]⟩, none⟩,
    ⟨(some 9), .assign (.tmp 34), none⟩] [0, 1, 6, 7, 8, 9])
  (.seq (.reg [⟨(some 35), .move (.tmp 0), none⟩,
    ⟨(some 36), .move (.tmp 7), none⟩,
    ⟨(some 37), .indexAddr 24 (.tmp 35) (.tmp 36), none⟩,
    ⟨(some 38), .load 34 (.tmp 37), none⟩,
    ⟨(some 39), .move (.tmp 1), none⟩,
    ⟨(some 40), .call ⟨.value (.func 38), #[(.tmp 38), (.tmp 39)], #[34, 3]⟩, none⟩,
    ⟨(some 41), .unOp .not 4 (.tmp 40), none⟩,
    ⟨(some 10), .assign (.tmp 41), none⟩] [0, 1, 6, 7, 8, 9, 10])
  (.seq (.seq (.reg [⟨(some 11), .assign (.const (.int .i64 0)), none⟩] [0, 1, 6, 7, 8, 9, 10, 11])
  (.block 2 (.loop spec_TownsOn_l0)))
  (.seq (.block 4 (.loop spec_TownsOn_l1))
  (.seq (.reg [⟨(some 70), .move (.tmp 10), none⟩,
    ⟨(some 71), .unOp .not 4 (.tmp 70), none⟩] [0, 1, 6, 7, 8, 9, 71])
  (.cond (.tmp 71) (.regF []
    [73, 74, 75, 72, 77, 78, 80, 81, 82] []
    [⟨(some 73), .move (.tmp 6), none⟩,
    ⟨(some 74), .move (.tmp 9), none⟩,
    ⟨(some 75), .slice 30 (.tmp 73) none (some (.tmp 74)) none, none⟩,
    ⟨(some 72), .buildSlice 30 0 #[], none⟩,
    ⟨(some 76), .call ⟨.builtin .append, #[(.tmp 72), (.tmp 75)], #[30, 30]⟩, none⟩,
    ⟨(some 77), .move (.tmp 8), none⟩,
    ⟨(some 78), .buildSlice 30 1 #[(0, (.tmp 77))], none⟩,
    ⟨(some 79), .call ⟨.builtin .append, #[(.tmp 76), (.tmp 78)], #[30, 30]⟩, none⟩,
    ⟨(some 80), .move (.tmp 6), none⟩,
    ⟨(some 81), .move (.tmp 9), none⟩,
    ⟨(some 82), .slice 30 (.tmp 80) (some (.tmp 81)) none none, none⟩,
    ⟨(some 83), .call ⟨.builtin .append, #[(.tmp 79), (.tmp 82)], #[30, 30]⟩, none⟩,
    ⟨(some 6), .assign (.tmp 83), none⟩] [0, 1, 6, 7])
  .skip))))))))
  (.reg [⟨(some 26), .move (.tmp 7), none⟩,
    ⟨(some 27), .binOp .add 3 (.tmp 26) (.const (.int .i64 1)) 3, none⟩,
    ⟨(some 7), .assign (.tmp 27), none⟩] [0, 1, 6, 7])))
/-- loop.example/g01062/spec.TownsOn: number 15, params [0, 1] -/
def spec_TownsOn_c : ACode := (.seq (.reg [⟨(some 4), .assign (.const (.slice none 0 0)), none⟩,
    ⟨(some 5), .assign (.const (.bool false)), none⟩] [0, 1])
  (.seq (.reg [⟨(some 12), .buildSlice 30 0 #[], none⟩,
    ⟨(some 6), .assign (.tmp 12), none⟩] [0, 1, 6])
  (.seq (.seq (.reg [⟨(some 13), .move (.tmp 0), none⟩,
    ⟨(some 14), .call ⟨.value (.func 28), #[(.tmp 13)], #[24]⟩, none⟩,
    ⟨(some 15), .unOp .not 4 (.tmp 14), none⟩,
    ⟨(some 16), .move (.tmp 15), none⟩,
    ⟨(some 17), .move (.tmp 1), (some (some 16, false))⟩,
    ⟨(some 18), .call ⟨.value (.func 29), #[(.tmp 17)], #[3]⟩, (some (some 16, false))⟩,
    ⟨(some 19), .unOp .not 4 (.tmp 18), (some (some 16, false))⟩,
    ⟨(some 20), .pick (.tmp 16) (.const (.bool true)) (.tmp 19), none⟩] [0, 1, 6, 20])
  (.cond (.tmp 20) (.seq (.reg [⟨(some 21), .move (.tmp 6), none⟩,
    ⟨(some 4), .assign (.tmp 21), none⟩,
    ⟨(some 5), .assign (.const (.bool false)), none⟩] [4, 5])
  .ret)
  .skip))
  (.seq (.seq (.reg [⟨(some 7), .assign (.const (.int .i64 0)), none⟩] [0, 1, 6, 7])
  (.block 0 (.loop spec_TownsOn_l2)))
  (.seq (.reg [⟨(some 84), .move (.tmp 6), none⟩,
    ⟨(some 4), .assign (.tmp 84), none⟩,
    ⟨(some 5), .assign (.const (.bool true)), none⟩] [4, 5])
  .ret)))))
theorem spec_TownsOn_k : fnOk Tryz.prog (fun _ => false) 15 = some (spec_TownsOn_c.strip, 85, [.tmp 4, .tmp 5]) := by kernel_rfl
/-- loop.example/g01062/impl.PostmarkText: number 17, params [0] -/
def impl_PostmarkText_c : ACode := (.seq (.reg [⟨(some 1), .box 34 (.tmp 0), none⟩,
    ⟨(some 2), .assign (.const (.string ⟨#[]⟩)), none⟩,
    ⟨(some 3), .assign (.const (.bool false)), none⟩] [1])
  (.seq (.seq (.reg [⟨(some 4), .load 34 (.tmp 1), none⟩,
    ⟨(some 5), .call ⟨.value (.func 40), #[(.tmp 4)], #[34]⟩, none⟩,
    ⟨(some 6), .unOp .not 4 (.tmp 5), none⟩] [1, 6])
  (.cond (.tmp 6) (.seq (.reg [⟨(some 2), .assign (.const (.string ⟨#[]⟩)), none⟩,
    ⟨(some 3), .assign (.const (.bool false)), none⟩] [2, 3])
  .ret)
  .skip))
  (.seq (.regQ [⟨(some 7), .fieldAddr 34 (.tmp 1) 0, none⟩,
    ⟨(some 8), .load 3 (.tmp 7), none⟩,
    ⟨(some 9), .call ⟨.value (.func 41), #[(.tmp 8)], #[3]⟩, none⟩,
    ⟨(some 10), .binOp .add 9 (.const (.string ⟨#[112]⟩)) (.tmp 9) 9, none⟩,
    ⟨(some 11), .binOp .add 9 (.tmp 10) (.const (.string ⟨#[32]⟩)) 9, none⟩,
    ⟨(some 12), .load 34 (.tmp 1), none⟩,
    ⟨(some 13), .call ⟨.value (.func 42), #[(.tmp 12)], #[34]⟩, none⟩,
    ⟨(some 14), .binOp .add 9 (.tmp 11) (.tmp 13) 9, none⟩,
    ⟨(some 15), .binOp .add 9 (.tmp 14) (.const (.string ⟨#[32, 107]⟩)) 9, none⟩,
    ⟨(some 16), .fieldAddr 34 (.tmp 1) 2, none⟩,
    ⟨(some 17), .load 3 (.tmp 16), none⟩,
    ⟨(some 18), .call ⟨.value (.func 41), #[(.tmp 17)], #[3]⟩, none⟩,
    ⟨(some 19), .binOp .add 9 (.tmp 15) (.tmp 18) 9, none⟩,
    ⟨(some 20), .binOp .add 9 (.tmp 19) (.const (.string ⟨#[32]⟩)) 9, none⟩,
    ⟨(some 21), .fieldAddr 34 (.tmp 1) 3, none⟩,
    ⟨(some 22), .load 3 (.tmp 21), none⟩,
    ⟨(some 23), .call ⟨.value (.func 41), #[(.tmp 22)], #[3]⟩, none⟩,
    ⟨(some 24), .binOp .add 9 (.tmp 20) (.tmp 23) 9, none⟩,
    ⟨(some 25), .binOp .add 9 (.tmp 24) (.const (.string ⟨#[45]⟩)) 9, none⟩,
    ⟨(some 26), .fieldAddr 34 (.tmp 1) 4, none⟩,
    ⟨(some 27), .load 3 (.tmp 26), none⟩,
    ⟨(some 28), .call ⟨.value (.func 41), #[(.tmp 27)], #[3]⟩, none⟩,
    ⟨(some 29), .binOp .add 9 (.tmp 25) (.tmp 28) 9, none⟩,
    ⟨(some 2), .assign (.tmp 29), none⟩,
    ⟨(some 3), .assign (.const (.bool true)), none⟩] [2, 3])
  .ret)))
theorem impl_PostmarkText_k : fnOk Tryz.prog (fun _ => false) 17 = some (impl_PostmarkText_c.strip, 30, [.tmp 2, .tmp 3]) := by kernel_rfl
/-- loop.example/g01062/spec.PostmarkText: number 18, params [0] -/
def spec_PostmarkText_c : ACode := (.seq (.reg [⟨(some 1), .box 34 (.tmp 0), none⟩,
    ⟨(some 2), .assign (.const (.string ⟨#[]⟩)), none⟩,
    ⟨(some 3), .assign (.const (.bool false)), none⟩] [1])
  (.seq (.seq (.reg [⟨(some 4), .load 34 (.tmp 1), none⟩,
    ⟨(some 5), .call ⟨.value (.func 43), #[(.tmp 4)], #[34]⟩, none⟩,
    ⟨(some 6), .unOp .not 4 (.tmp 5), none⟩] [1, 6])
  (.cond (.tmp 6) (.seq (.reg [⟨(some 2), .assign (.const (.string ⟨#[]⟩)), none⟩,
    ⟨(some 3), .assign (.const (.bool false)), none⟩] [2, 3])
  .ret)
  .skip))
  (.seq (.regQ [⟨(some 7), .fieldAddr 34 (.tmp 1) 0, none⟩,
    ⟨(some 8), .load 3 (.tmp 7), none⟩,
    ⟨(some 9), .call ⟨.value (.func 44), #[(.tmp 8)], #[3]⟩, none⟩,
    ⟨(some 10), .binOp .add 9 (.const (.string ⟨#[112]⟩)) (.tmp 9) 9, none⟩,
    ⟨(some 11), .binOp .add 9 (.tmp 10) (.const (.string ⟨#[32]⟩)) 9, none⟩,
    ⟨(some 12), .load 34 (.tmp 1), none⟩,
    ⟨(some 13), .call ⟨.value (.func 45), #[(.tmp 12)], #[34]⟩, none⟩,
    ⟨(some 14), .binOp .add 9 (.tmp 11) (.tmp 13) 9, none⟩,
    ⟨(some 15), .binOp .add 9 (.tmp 14) (.const (.string ⟨#[32, 107]⟩)) 9, none⟩,
    ⟨(some 16), .fieldAddr 34 (.tmp 1) 2, none⟩,
    ⟨(some 17), .load 3 (.tmp 16), none⟩,
    ⟨(some 18), .call ⟨.value (.func 44), #[(.tmp 17)], #[3]⟩, none⟩,
    ⟨(some 19), .binOp .add 9 (.tmp 15) (.tmp 18) 9, none⟩,
    ⟨(some 20), .binOp .add 9 (.tmp 19) (.const (.string ⟨#[32]⟩)) 9, none⟩,
    ⟨(some 21), .fieldAddr 34 (.tmp 1) 3, none⟩,
    ⟨(some 22), .load 3 (.tmp 21), none⟩,
    ⟨(some 23), .call ⟨.value (.func 44), #[(.tmp 22)], #[3]⟩, none⟩,
    ⟨(some 24), .binOp .add 9 (.tmp 20) (.tmp 23) 9, none⟩,
    ⟨(some 25), .binOp .add 9 (.tmp 24) (.const (.string ⟨#[45]⟩)) 9, none⟩,
    ⟨(some 26), .fieldAddr 34 (.tmp 1) 4, none⟩,
    ⟨(some 27), .load 3 (.tmp 26), none⟩,
    ⟨(some 28), .call ⟨.value (.func 44), #[(.tmp 27)], #[3]⟩, none⟩,
    ⟨(some 29), .binOp .add 9 (.tmp 25) (.tmp 28) 9, none⟩,
    ⟨(some 2), .assign (.tmp 29), none⟩,
    ⟨(some 3), .assign (.const (.bool true)), none⟩] [2, 3])
  .ret)))
theorem spec_PostmarkText_k : fnOk Tryz.prog (fun _ => false) 18 = some (spec_PostmarkText_c.strip, 30, [.tmp 2, .tmp 3]) := by kernel_rfl
/-- head: [0, 1, 5] -/
def laws_rTexts_l0 : ACode := (.seq (.seq (.reg [⟨(some 11), .move (.tmp 5), none⟩,
    ⟨(some 12), .move (.tmp 0), none⟩,
    ⟨(some 13), .call ⟨.builtin .len, #[(.tmp 12)], #[30]⟩, none⟩,
    ⟨(some 14), .binOp .lss 3 (.tmp 11) (.tmp 13) 3, none⟩] [0, 1, 5, 14])
  (.cond (.tmp 14) .skip
  (.exit 0)))
  (.seq (.block 1 (.seq (.regQ [⟨(some 17), .move (.tmp 0), none⟩,
    ⟨(some 18), .move (.tmp 5), none⟩,
    ⟨(some 19), .indexAddr 30 (.tmp 17) (.tmp 18), none⟩,
    ⟨(some 20), .load 9 (.tmp 19), none⟩,
    ⟨(some 21), .move (.tmp 1), none⟩,
    ⟨(some 22), .move (.tmp 5), none⟩,
    ⟨(some 23), .indexAddr 30 (.tmp 21) (.tmp 22), none⟩,
    ⟨(some 24), .load 9 (.tmp 23), none⟩,
    ⟨(some 25), .binOp .neq 9 (.tmp 20) (.tmp 24) 9, none⟩] [0, 1, 5, 25])
  (.cond (.tmp 25) (.seq (.reg [⟨(some 4), .assign (.const (.bool false)), none⟩] [4])
  .ret)
  .skip)))
  (.reg [⟨(some 15), .move (.tmp 5), none⟩,
    ⟨(some 16), .binOp .add 3 (.tmp 15) (.const (.int .i64 1)) 3, none⟩,
    ⟨(some 5), .assign (.tmp 16), none⟩] [0, 1, 5])))
/-- loop.example/g01062/laws.rTexts: number 19, params [0, 1] -/
def laws_rTexts_c : ACode := (.seq (.reg [⟨(some 4), .assign (.const (.bool false)), none⟩] [0, 1])
  (.seq (.seq (.reg [⟨(some 6), .move (.tmp 0), none⟩,
    ⟨(some 7), .call ⟨.builtin .len, #[(.tmp 6)], #[30]⟩, none⟩,
    ⟨(some 8), .move (.tmp 1), none⟩,
    ⟨(some 9), .call ⟨.builtin .len, #[(.tmp 8)], #[30]⟩, none⟩,
    ⟨(some 10), .binOp .neq 3 (.tmp 7) (.tmp 9) 3, none⟩] [0, 1, 10])
  (.cond (.tmp 10) (.seq (.reg [⟨(some 4), .assign (.const (.bool false)), none⟩] [4])
  .ret)
  .skip))
  (.seq (.seq (.reg [⟨(some 5), .assign (.const (.int .i64 0)), none⟩] [0, 1, 5])
  (.block 0 (.loop laws_rTexts_l0)))
  (.seq (.reg [⟨(some 4), .assign (.const (.bool true)), none⟩] [4])
  .ret))))
theorem laws_rTexts_k : fnOk Tryz.prog (fun _ => false) 19 = some (laws_rTexts_c.strip, 26, [.tmp 4]) := by kernel_rfl
/-- loop.example/g01062/impl.postmarkAt: number 23, params [0, 1] -/
def impl_postmarkAt_c : ACode := (.seq (.reg [⟨(some 3), .box 3 (.tmp 1), none⟩,
    ⟨(some 4), .assign (.const (.int .i64 0)), none⟩] [0, 3])
  (.seq (.reg [⟨(some 5), .move (.tmp 0), none⟩,
    ⟨(some 6), .makeFunc (.func 51) #[] #[(.tmp 3)], none⟩,
    ⟨(some 7), .call ⟨.value (.func 50), #[(.tmp 5), (.tmp 6)], #[24, 64]⟩, none⟩,
    ⟨(some 4), .assign (.tmp 7), none⟩] [4])
  .ret))
theorem impl_postmarkAt_k : fnOk Tryz.prog (fun _ => false) 23 = some (impl_postmarkAt_c.strip, 8, [.tmp 4]) := by kernel_rfl
/-- head: [0, 5, 6, 7] -/
def impl_arePostmarks_l0 : ACode := (.seq (.reg [⟨(some 8), .binOp .lss 3 (.tmp 7) (.tmp 6) 3, none⟩] [0, 5, 6, 7, 8])
  (.seq (.cond (.tmp 8) .skip
  (.exit 0))
  (.seq (.block 1 (.seq (.reg [⟨(some 9), .move (.tmp 7), none⟩,
    ⟨(some 10), .indexAddr 24 (.tmp 5) (.tmp 7), none⟩,
    ⟨(some 11), .load 34 (.tmp 10), none⟩,
    ⟨(some 4), .alloc 34, none⟩,
    ⟨(some 3), .assign (.tmp 9), none⟩,
    ⟨none, .store 34 (.tmp 4) (.tmp 11), none⟩] [0, 3, 4, 5, 6, 7])
  (.seq (.regQ [⟨(some 12), .load 34 (.tmp 4), none⟩,
    ⟨(some 13), .call ⟨.value (.func 40), #[(.tmp 12)], #[34]⟩, none⟩,
    ⟨(some 14), .unOp .not 4 (.tmp 13), none⟩,
    ⟨(some 15), .move (.tmp 14), none⟩,
    ⟨(some 16), .move (.tmp 3), (some (some 15, false))⟩,
    ⟨(some 17), .binOp .gtr 3 (.tmp 16) (.const (.int .i64 0)) 3, (some (some 15, false))⟩,
    ⟨(some 18), .move (.tmp 17), (some (some 15, false))⟩,
    ⟨(some 19), .move (.tmp 0), (some (some 18, true))⟩,
    ⟨(some 20), .move (.tmp 3), (some (some 18, true))⟩,
    ⟨(some 21), .binOp .sub 3 (.tmp 20) (.const (.int .i64 1)) 3, (some (some 18, true))⟩,
    ⟨(some 22), .indexAddr 24 (.tmp 19) (.tmp 21), (some (some 18, true))⟩,
    ⟨(some 23), .fieldAddr 34 (.tmp 22) 0, (some (some 18, true))⟩,
    ⟨(some 24), .load 3 (.tmp 23), (some (some 18, true))⟩,
    ⟨(some 25), .fieldAddr 34 (.tmp 4) 0, (some (some 18, true))⟩,
    ⟨(some 26), .load 3 (.tmp 25), (some (some 18, true))⟩,
    ⟨(some 27), .binOp .geq 3 (.tmp 24) (.tmp 26) 3, (some (some 18, true))⟩,
    ⟨(some 28), .pick (.tmp 18) (.tmp 27) (.const (.bool false)), (some (some 15, false))⟩,
    ⟨(some 29), .pick (.tmp 15) (.const (.bool true)) (.tmp 28), none⟩] [0, 5, 6, 7, 29])
  (.cond (.tmp 29) (.seq (.reg [⟨(some 2), .assign (.const (.bool false)), none⟩] [2])
  .ret)
  .skip))))
  (.reg [⟨(some 30), .binOp .add 3 (.tmp 7) (.const (.int .i64 1)) 3, none⟩,
    ⟨(some 7), .move (.tmp 30), none⟩] [0, 5, 6, 7]))))
/-- loop.example/g01062/impl.arePostmarks: number 24, params [0] -/
def impl_arePostmarks_c : ACode := (.seq (.reg [⟨(some 2), .assign (.const (.bool false)), none⟩] [0])
  (.seq (.seq (.reg [⟨(some 5), .move (.tmp 0), none⟩,
    ⟨(some 6), .call ⟨.builtin .len, #[(.tmp 5)], #[24]⟩, none⟩,
    ⟨(some 7), .move (.const (.int .i64 0)), none⟩] [0, 5, 6, 7])
  (.block 0 (.loop impl_arePostmarks_l0)))
  (.seq (.reg [⟨(some 31), .move (.tmp 0), none⟩,
    ⟨(some 32), .call ⟨.builtin .len, #[(.tmp 31)], #[24]⟩, none⟩,
    ⟨(some 33), .binOp .leq 3 (.tmp 32) (.const (.int .i64 12)) 3, none⟩,
    ⟨(some 2), .assign (.tmp 33), none⟩] [2])
  .ret)))
theorem impl_arePostmarks_k : fnOk Tryz.prog (fun _ => false) 24 = some (impl_arePostmarks_c.strip, 34, [.tmp 2]) := by kernel_rfl
/-- loop.example/g01062/impl.isDay: number 25, params [0] -/
def impl_isDay_c : ACode := (.seq (.reg [⟨(some 2), .assign (.const (.bool false)), none⟩] [0])
  (.seq (.reg [⟨(some 3), .move (.tmp 0), none⟩,
    ⟨(some 4), .call ⟨.value (.func 32), #[(.tmp 3), (.const (.int .i64 0)), (.const (.int .i64 4000))], #[3, 3, 3]⟩, none⟩,
    ⟨(some 2), .assign (.tmp 4), none⟩] [2])
  .ret))
theorem impl_isDay_k : fnOk Tryz.prog (fun _ => false) 25 = some (impl_isDay_c.strip, 5, [.tmp 2]) := by kernel_rfl
/-- slices.Clone[[]loop.example/g01062/impl.Postmark,loop.example/g01062/impl.Postmark]: number 26, params [0] -/
def slices_Clone___impl_Postmark_impl_Postmark__c : ACode := (.seq (.reg [⟨(some 2), .assign (.const (.slice none 0 0)), none⟩] [0])
  (.seq (.seq (.reg [⟨(some 3), .move (.tmp 0), none⟩,
    ⟨(some 4), .binOp .eql 24 (.tmp 3) (.const (.slice none 0 0)) 24, none⟩] [0, 4])
  (.cond (.tmp 4) (.seq (.reg [⟨(some 2), .assign (.const (.slice none 0 0)), none⟩] [2])
  .ret)
  .skip))
  (.seq (.reg [⟨(some 5), .buildSlice 24 0 #[], none⟩,
    ⟨(some 6), .move (.tmp 0), none⟩,
    ⟨(some 7), .call ⟨.builtin .append, #[(.tmp 5), (.tmp 6)], #[24, 24]⟩, none⟩,
    ⟨(some 2), .assign (.tmp 7), none⟩] [2])
  .ret)))
theorem slices_Clone___impl_Postmark_impl_Postmark__k : fnOk Tryz.prog (fun _ => false) 26 = some (slices_Clone___impl_Postmark_impl_Postmark__c.strip, 8, [.tmp 2]) := by kernel_rfl
/-- head: [0, 1, 5] -/
def spec_l11Find_l0 : ACode := (.seq (.seq (.reg [⟨(some 6), .move (.tmp 5), none⟩,
    ⟨(some 7), .move (.tmp 0), none⟩,
    ⟨(some 8), .call ⟨.builtin .len, #[(.tmp 7)], #[24]⟩, none⟩,
    ⟨(some 9), .binOp .lss 3 (.tmp 6) (.tmp 8) 3, none⟩] [0, 1, 5, 9])
  (.cond (.tmp 9) .skip
  (.exit 0)))
  (.seq (.block 1 (.seq (.reg [⟨(some 12), .move (.tmp 0), none⟩,
    ⟨(some 13), .move (.tmp 5), none⟩,
    ⟨(some 14), .indexAddr 24 (.tmp 12) (.tmp 13), none⟩,
    ⟨(some 15), .fieldAddr 34 (.tmp 14) 0, none⟩,
    ⟨(some 16), .load 3 (.tmp 15), none⟩,
    ⟨(some 17), .move (.tmp 1), none⟩,
    ⟨(some 18), .binOp .eql 3 (.tmp 16) (.tmp 17) 3, none⟩] [0, 1, 5, 18])
  (.cond (.tmp 18) (.seq (.reg [⟨(some 19), .move (.tmp 5), none⟩,
    ⟨(some 4), .assign (.tmp 19), none⟩] [4])
  .ret)
  .skip)))
  (.reg [⟨(some 10), .move (.tmp 5), none⟩,
    ⟨(some 11), .binOp .add 3 (.tmp 10) (.const (.int .i64 1)) 3, none⟩,
    ⟨(some 5), .assign (.tmp 11), none⟩] [0, 1, 5])))
/-- loop.example/g01062/spec.l11Find: number 27, params [0, 1] -/
def spec_l11Find_c : ACode := (.seq (.reg [⟨(some 4), .assign (.const (.int .i64 0)), none⟩] [0, 1])
  (.seq (.seq (.reg [⟨(some 5), .assign (.const (.int .i64 0)), none⟩] [0, 1, 5])
  (.block 0 (.loop spec_l11Find_l0)))
  (.seq (.reg [⟨(some 4), .assign (.const (.int .i64 (-1))), none⟩] [4])
  .ret)))
theorem spec_l11Find_k : fnOk Tryz.prog (fun _ => false) 27 = some (spec_l11Find_c.strip, 20, [.tmp 4]) := by kernel_rfl
/-- head: [0, 3] -/
def spec_l11Good_l0 : ACode := (.seq (.seq (.reg [⟨(some 4), .move (.tmp 3), none⟩,
    ⟨(some 5), .move (.tmp 0), none⟩,
    ⟨(some 6), .call ⟨.builtin .len, #[(.tmp 5)], #[24]⟩, none⟩,
    ⟨(some 7), .binOp .lss 3 (.tmp 4) (.tmp 6) 3, none⟩] [0, 3, 7])
  (.cond (.tmp 7) .skip
  (.exit 0)))
  (.seq (.block 1 (.seq (.regQ [⟨(some 10), .move (.tmp 0), none⟩,
    ⟨(some 11), .move (.tmp 3), none⟩,
    ⟨(some 12), .indexAddr 24 (.tmp 10) (.tmp 11), none⟩,
    ⟨(some 13), .load 34 (.tmp 12), none⟩,
    ⟨(some 14), .call ⟨.value (.func 43), #[(.tmp 13)], #[34]⟩, none⟩,
    ⟨(some 15), .unOp .not 4 (.tmp 14), none⟩,
    ⟨(some 16), .move (.tmp 15), none⟩,
    ⟨(some 17), .move (.tmp 3), (some (some 16, false))⟩,
    ⟨(some 18), .binOp .gtr 3 (.tmp 17) (.const (.int .i64 0)) 3, (some (some 16, false))⟩,
    ⟨(some 19), .move (.tmp 18), (some (some 16, false))⟩,
    ⟨(some 20), .move (.tmp 0), (some (some 19, true))⟩,
    ⟨(some 21), .move (.tmp 3), (some (some 19, true))⟩,
    ⟨(some 22), .binOp .sub 3 (.tmp 21) (.const (.int .i64 1)) 3, (some (some 19, true))⟩,
    ⟨(some 23), .indexAddr 24 (.tmp 20) (.tmp 22), (some (some 19, true))⟩,
    ⟨(some 24), .fieldAddr 34 (.tmp 23) 0, (some (some 19, true))⟩,
    ⟨(some 25), .load 3 (.tmp 24), (some (some 19, true))⟩,
    ⟨(some 26), .move (.tmp 0), (some (some 19, true))⟩,
    ⟨(some 27), .move (.tmp 3), (some (some 19, true))⟩,
    ⟨(some 28), .indexAddr 24 (.tmp 26) (.tmp 27), (some (some 19, true))⟩,
    ⟨(some 29), .fieldAddr 34 (.tmp 28) 0, (some (some 19, true))⟩,
    ⟨(some 30), .load 3 (.tmp 29), (some (some 19, true))⟩,
    ⟨(some 31), .binOp .geq 3 (.tmp 25) (.tmp 30) 3, (some (some 19, true))⟩,
    ⟨(some 32), .pick (.tmp 19) (.tmp 31) (.const (.bool false)), (some (some 16, false))⟩,
    ⟨(some 33), .pick (.tmp 16) (.const (.bool true)) (.tmp 32), none⟩] [0, 3, 33])
  (.cond (.tmp 33) (.seq (.reg [⟨(some 2), .assign (.const (.bool false)), none⟩] [2])
  .ret)
  .skip)))
  (.reg [⟨(some 8), .move (.tmp 3), none⟩,
    ⟨(some 9), .binOp .add 3 (.tmp 8) (.const (.int .i64 1)) 3, none⟩,
    ⟨(some 3), .assign (.tmp 9), none⟩] [0, 3])))
/-- loop.example/g01062/spec.l11Good: number 28, params [0] -/
def spec_l11Good_c : ACode := (.seq (.reg [⟨(some 2), .assign (.const (.bool false)), none⟩] [0])
  (.seq (.seq (.reg [⟨(some 3), .assign (.const (.int .i64 0)), none⟩] [0, 3])
  (.block 0 (.loop spec_l11Good_l0)))
  (.seq (.reg [⟨(some 34), .move (.tmp 0), none⟩,
    ⟨(some 35), .call ⟨.builtin .len, #[(.tmp 34)], #[24]⟩, none⟩,
    ⟨(some 36), .binOp .leq 3 (.tmp 35) (.const (.int .i64 12)) 3, none⟩,
    ⟨(some 2), .assign (.tmp 36), none⟩] [2])
  .ret)))
theorem spec_l11Good_k : fnOk Tryz.prog (fun _ => false) 28 = some (spec_l11Good_c.strip, 37, [.tmp 2]) := by kernel_rfl
/-- loop.example/g01062/spec.l2Day: number 29, params [0] -/
def spec_l2Day_c : ACode := (.seq (.reg [⟨(some 2), .assign (.const (.bool false)), none⟩] [0])
  (.seq (.reg [⟨(some 3), .move (.tmp 0), none⟩,
    ⟨(some 4), .call ⟨.value (.func 52), #[(.tmp 3), (.const (.int .i64 0)), (.const (.int .i64 4000))], #[3, 3, 3]⟩, none⟩,
    ⟨(some 2), .assign (.tmp 4), none⟩] [2])
  .ret))
theorem spec_l2Day_k : fnOk Tryz.prog (fun _ => false) 29 = some (spec_l2Day_c.strip, 5, [.tmp 2]) := by kernel_rfl
/-- loop.example/g01062/spec.l1Most: number 30, params [0, 1] -/
def spec_l1Most_c : ACode := (.seq (.reg [⟨(some 4), .assign (.const (.int .i64 0)), none⟩] [0, 1])
  (.seq (.seq (.reg [⟨(some 5), .move (.tmp 0), none⟩,
    ⟨(some 6), .move (.tmp 1), none⟩,
    ⟨(some 7), .binOp .gtr 3 (.tmp 5) (.tmp 6) 3, none⟩] [0, 1, 7])
  (.cond (.tmp 7) (.seq (.reg [⟨(some 8), .move (.tmp 0), none⟩,
    ⟨(some 4), .assign (.tmp 8), none⟩] [4])
  .ret)
  .skip))
  (.seq (.reg [⟨(some 9), .move (.tmp 1), none⟩,
    ⟨(some 4), .assign (.tmp 9), none⟩] [4])
  .ret)))
theorem spec_l1Most_k : fnOk Tryz.prog (fun _ => false) 30 = some (spec_l1Most_c.strip, 10, [.tmp 4]) := by kernel_rfl
/-- loop.example/g01062/spec.l1Least: number 31, params [0, 1] -/
def spec_l1Least_c : ACode := (.seq (.reg [⟨(some 4), .assign (.const (.int .i64 0)), none⟩] [0, 1])
  (.seq (.seq (.reg [⟨(some 5), .move (.tmp 0), none⟩,
    ⟨(some 6), .move (.tmp 1), none⟩,
    ⟨(some 7), .binOp .lss 3 (.tmp 5) (.tmp 6) 3, none⟩] [0, 1, 7])
  (.cond (.tmp 7) (.seq (.reg [⟨(some 8), .move (.tmp 0), none⟩,
    ⟨(some 4), .assign (.tmp 8), none⟩] [4])
  .ret)
  .skip))
  (.seq (.reg [⟨(some 9), .move (.tmp 1), none⟩,
    ⟨(some 4), .assign (.tmp 9), none⟩] [4])
  .ret)))
theorem spec_l1Least_k : fnOk Tryz.prog (fun _ => false) 31 = some (spec_l1Least_c.strip, 10, [.tmp 4]) := by kernel_rfl
/-- loop.example/g01062/impl.inRange: number 32, params [0, 1, 2] -/
def impl_inRange_c : ACode := (.seq (.reg [⟨(some 6), .assign (.const (.bool false)), none⟩] [0, 1, 2])
  (.seq (.reg [⟨(some 7), .move (.tmp 0), none⟩,
    ⟨(some 8), .move (.tmp 1), none⟩,
    ⟨(some 9), .binOp .geq 3 (.tmp 7) (.tmp 8) 3, none⟩,
    ⟨(some 10), .move (.tmp 9), none⟩,
    ⟨(some 11), .move (.tmp 0), (some (some 10, true))⟩,
    ⟨(some 12), .move (.tmp 2), (some (some 10, true))⟩,
    ⟨(some 13), .binOp .leq 3 (.tmp 11) (.tmp 12) 3, (some (some 10, true))⟩,
    ⟨(some 14), .pick (.tmp 10) (.tmp 13) (.const (.bool false)), none⟩,
    ⟨(some 6), .assign (.tmp 14), none⟩] [6])
  .ret))
theorem impl_inRange_k : fnOk Tryz.prog (fun _ => false) 32 = some (impl_inRange_c.strip, 15, [.tmp 6]) := by kernel_rfl
/-- head: [0, 5, 6] -/
def impl_isWord_l0 : ACode := (.seq (.reg [⟨(some 7), .binOp .lss 3 (.tmp 6) (.tmp 5) 3, none⟩] [0, 5, 6, 7])
  (.seq (.cond (.tmp 7) .skip
  (.exit 0))
  (.seq (.block 1 (.seq (.reg [⟨(some 8), .move (.tmp 6), none⟩,
    ⟨(some 3), .assign (.tmp 8), none⟩] [0, 3, 5, 6])
  (.seq (.reg [⟨(some 9), .move (.tmp 0), none⟩,
    ⟨(some 10), .move (.tmp 3), none⟩,
    ⟨(some 11), .index 9 (.tmp 9) (.tmp 10), none⟩,
    ⟨(some 12), .binOp .lss 5 (.tmp 11) (.const (.int .u8 97)) 5, none⟩,
    ⟨(some 13), .move (.tmp 12), none⟩,
    ⟨(some 14), .move (.tmp 0), (some (some 13, false))⟩,
    ⟨(some 15), .move (.tmp 3), (some (some 13, false))⟩,
    ⟨(some 16), .index 9 (.tmp 14) (.tmp 15), (some (some 13, false))⟩,
    ⟨(some 17), .binOp .gtr 5 (.tmp 16) (.const (.int .u8 122)) 5, (some (some 13, false))⟩,
    ⟨(some 18), .pick (.tmp 13) (.const (.bool true)) (.tmp 17), none⟩] [0, 5, 6, 18])
  (.cond (.tmp 18) (.seq (.reg [⟨(some 2), .assign (.const (.bool false)), none⟩] [2])
  .ret)
  .skip))))
  (.reg [⟨(some 19), .binOp .add 3 (.tmp 6) (.const (.int .i64 1)) 3, none⟩,
    ⟨(some 6), .move (.tmp 19), none⟩] [0, 5, 6]))))
/-- loop.example/g01062/impl.isWord: number 36, params [0] -/
def impl_isWord_c : ACode := (.seq (.reg [⟨(some 2), .assign (.const (.bool false)), none⟩] [0])
  (.seq (.seq (.reg [⟨(some 4), .move (.tmp 0), none⟩,
    ⟨(some 5), .call ⟨.builtin .len, #[(.tmp 4)], #[9]⟩, none⟩,
    ⟨(some 6), .move (.const (.int .i64 0)), none⟩] [0, 5, 6])
  (.block 0 (.loop impl_isWord_l0)))
  (.seq (.reg [⟨(some 20), .move (.tmp 0), none⟩,
    ⟨(some 21), .call ⟨.builtin .len, #[(.tmp 20)], #[9]⟩, none⟩,
    ⟨(some 22), .call ⟨.value (.func 32), #[(.tmp 21), (.const (.int .i64 1)), (.const (.int .i64 10))], #[3, 3, 3]⟩, none⟩,
    ⟨(some 2), .assign (.tmp 22), none⟩] [2])
  .ret)))
theorem impl_isWord_k : fnOk Tryz.prog (fun _ => false) 36 = some (impl_isWord_c.strip, 23, [.tmp 2]) := by kernel_rfl
/-- head: [0, 3] -/
def spec_l2Word_l0 : ACode := (.seq (.seq (.reg [⟨(some 4), .move (.tmp 3), none⟩,
    ⟨(some 5), .move (.tmp 0), none⟩,
    ⟨(some 6), .call ⟨.builtin .len, #[(.tmp 5)], #[9]⟩, none⟩,
    ⟨(some 7), .binOp .lss 3 (.tmp 4) (.tmp 6) 3, none⟩] [0, 3, 7])
  (.cond (.tmp 7) .skip
  (.exit 0)))
  (.seq (.block 1 (.seq (.reg [⟨(some 10), .move (.tmp 0), none⟩,
    ⟨(some 11), .move (.tmp 3), none⟩,
    ⟨(some 12), .index 9 (.tmp 10) (.tmp 11), none⟩,
    ⟨(some 13), .binOp .lss 5 (.tmp 12) (.const (.int .u8 97)) 5, none⟩,
    ⟨(some 14), .move (.tmp 13), none⟩,
    ⟨(some 15), .move (.tmp 0), (some (some 14, false))⟩,
    ⟨(some 16), .move (.tmp 3), (some (some 14, false))⟩,
    ⟨(some 17), .index 9 (.tmp 15) (.tmp 16), (some (some 14, false))⟩,
    ⟨(some 18), .binOp .gtr 5 (.tmp 17) (.const (.int .u8 122)) 5, (some (some 14, false))⟩,
    ⟨(some 19), .pick (.tmp 14) (.const (.bool true)) (.tmp 18), none⟩] [0, 3, 19])
  (.cond (.tmp 19) (.seq (.reg [⟨(some 2), .assign (.const (.bool false)), none⟩] [2])
  .ret)
  .skip)))
  (.reg [⟨(some 8), .move (.tmp 3), none⟩,
    ⟨(some 9), .binOp .add 3 (.tmp 8) (.const (.int .i64 1)) 3, none⟩,
    ⟨(some 3), .assign (.tmp 9), none⟩] [0, 3])))
/-- loop.example/g01062/spec.l2Word: number 37, params [0] -/
def spec_l2Word_c : ACode := (.seq (.reg [⟨(some 2), .assign (.const (.bool false)), none⟩] [0])
  (.seq (.seq (.reg [⟨(some 3), .assign (.const (.int .i64 0)), none⟩] [0, 3])
  (.block 0 (.loop spec_l2Word_l0)))
  (.seq (.reg [⟨(some 20), .move (.tmp 0), none⟩,
    ⟨(some 21), .call ⟨.builtin .len, #[(.tmp 20)], #[9]⟩, none⟩,
    ⟨(some 22), .call ⟨.value (.func 52), #[(.tmp 21), (.const (.int .i64 1)), (.const (.int .i64 10))], #[3, 3, 3]⟩, none⟩,
    ⟨(some 2), .assign (.tmp 22), none⟩] [2])
  .ret)))
theorem spec_l2Word_k : fnOk Tryz.prog (fun _ => false) 37 = some (spec_l2Word_c.strip, 23, [.tmp 2]) := by kernel_rfl
/-- loop.example/g01062/spec.l11Used: number 38, params [0, 1] -/
def spec_l11Used_c : ACode := (.seq (.reg [⟨(some 2), .box 34 (.tmp 0), none⟩,
    ⟨(some 4), .assign (.const (.bool false)), none⟩] [1, 2])
  (.seq (.reg [⟨(some 5), .move (.tmp 1), none⟩,
    ⟨(some 6), .fieldAddr 34 (.tmp 2) 3, none⟩,
    ⟨(some 7), .load 3 (.tmp 6), none⟩,
    ⟨(some 8), .fieldAddr 34 (.tmp 2) 4, none⟩,
    ⟨(some 9), .load 3 (.tmp 8), none⟩,
    ⟨(some 10), .call ⟨.value (.func 52), #[(.tmp 5), (.tmp 7), (.tmp 9)], #[3, 3, 3]⟩, none⟩,
    ⟨(some 4), .assign (.tmp 10), none⟩] [4])
  .ret))
theorem spec_l11Used_k : fnOk Tryz.prog (fun _ => false) 38 = some (spec_l11Used_c.strip, 11, [.tmp 4]) := by kernel_rfl
/-- loop.example/g01062/impl.isPostmark: number 40, params [0] -/
def impl_isPostmark_c : ACode := (.seq (.reg [⟨(some 1), .box 34 (.tmp 0), none⟩,
    ⟨(some 2), .assign (.const (.bool false)), none⟩] [1])
  (.seq (.reg [⟨(some 3), .fieldAddr 34 (.tmp 1) 0, none⟩,
    ⟨(some 4), .load 3 (.tmp 3), none⟩,
    ⟨(some 5), .call ⟨.value (.func 32), #[(.tmp 4), (.const (.int .i64 1)), (.const (.int .i64 999))], #[3, 3, 3]⟩, none⟩,
    ⟨(some 6), .move (.tmp 5), none⟩,
    ⟨(some 7), .fieldAddr 34 (.tmp 1) 1, (some (some 6, true))⟩,
    ⟨(some 8), .load 9 (.tmp 7), (some (some 6, true))⟩,
    ⟨(some 9), .call ⟨.value (.func 36), #[(.tmp 8)], #[9]⟩, (some (some 6, true))⟩,
    ⟨(some 10), .pick (.tmp 6) (.tmp 9) (.const (.bool false)), none⟩,
    ⟨(some 11), .move (.tmp 10), none⟩,
    ⟨(some 12), .fieldAddr 34 (.tmp 1) 2, (some (some 11, true))⟩,
    ⟨(some 13), .load 3 (.tmp 12), (some (some 11, true))⟩,
    ⟨(some 14), .call ⟨.value (.func 32), #[(.tmp 13), (.const (.int .i64 1)), (.const (.int .i64 5))], #[3, 3, 3]⟩, (some (some 11, true))⟩,
    ⟨(some 15), .pick (.tmp 11) (.tmp 14) (.const (.bool false)), none⟩,
    ⟨(some 16), .move (.tmp 15), none⟩,
    ⟨(some 17), .fieldAddr 34 (.tmp 1) 3, (some (some 16, true))⟩,
    ⟨(some 18), .load 3 (.tmp 17), (some (some 16, true))⟩,
    ⟨(some 19), .call ⟨.value (.func 25), #[(.tmp 18)], #[3]⟩, (some (some 16, true))⟩,
    ⟨(some 20), .pick (.tmp 16) (.tmp 19) (.const (.bool false)), none⟩,
    ⟨(some 21), .move (.tmp 20), none⟩,
    ⟨(some 22), .fieldAddr 34 (.tmp 1) 4, (some (some 21, true))⟩,
    ⟨(some 23), .load 3 (.tmp 22), (some (some 21, true))⟩,
    ⟨(some 24), .call ⟨.value (.func 25), #[(.tmp 23)], #[3]⟩, (some (some 21, true))⟩,
    ⟨(some 25), .pick (.tmp 21) (.tmp 24) (.const (.bool false)), none⟩,
    ⟨(some 26), .move (.tmp 25), none⟩,
    ⟨(some 27), .fieldAddr 34 (.tmp 1) 3, (some (some 26, true))⟩,
    ⟨(some 28), .load 3 (.tmp 27), (some (some 26, true))⟩,
    ⟨(some 29), .fieldAddr 34 (.tmp 1) 4, (some (some 26, true))⟩,
    ⟨(some 30), .load 3 (.tmp 29), (some (some 26, true))⟩,
    ⟨(some 31), .binOp .leq 3 (.tmp 28) (.tmp 30) 3, (some (some 26, true))⟩,
    ⟨(some 32), .pick (.tmp 26) (.tmp 31) (.const (.bool false)), none⟩,
    ⟨(some 33), .move (.tmp 32), none⟩,
    ⟨(some 34), .fieldAddr 34 (.tmp 1) 5, (some (some 33, true))⟩,
    ⟨(some 35), .load 9 (.tmp 34), (some (some 33, true))⟩,
    ⟨(some 36), .call ⟨.builtin .len, #[(.tmp 35)], #[9]⟩, (some (some 33, true))⟩,
    ⟨(some 37), .fieldAddr 34 (.tmp 1) 1, (some (some 33, true))⟩,
    ⟨(some 38), .load 9 (.tmp 37), (some (some 33, true))⟩,
    ⟨(some 39), .call ⟨.builtin .len, #[(.tmp 38)], #[9]⟩, (some (some 33, true))⟩,
    ⟨(some 40), .binOp .eql 3 (.tmp 36) (.tmp 39) 3, (some (some 33, true))⟩,
    ⟨(some 41), .pick (.tmp 33) (.tmp 40) (.const (.bool false)), none⟩,
    ⟨(some 42), .move (.tmp 41), none⟩,
    ⟨(some 43), .fieldAddr 34 (.tmp 1) 5, (some (some 42, true))⟩,
    ⟨(some 44), .load 9 (.tmp 43), (some (some 42, true))⟩,
    ⟨(some 45), .call ⟨.value (.func 57), #[(.tmp 44), (.const (.string ⟨#[46, 120]⟩))], #[9, 9]⟩, (some (some 42, true))⟩,
    ⟨(some 46), .binOp .eql 9 (.tmp 45) (.const (.string ⟨#[]⟩)) 9, (some (some 42, true))⟩,
    ⟨(some 47), .pick (.tmp 42) (.tmp 46) (.const (.bool false)), none⟩,
    ⟨(some 48), .move (.tmp 47), none⟩,
    ⟨(some 49), .fieldAddr 34 (.tmp 1) 5, (some (some 48, true))⟩,
    ⟨(some 50), .load 9 (.tmp 49), (some (some 48, true))⟩,
    ⟨(some 51), .call ⟨.value (.func 58), #[(.tmp 50), (.const (.string ⟨#[46]⟩))], #[9, 9]⟩, (some (some 48, true))⟩,
    ⟨(some 52), .pick (.tmp 48) (.tmp 51) (.const (.bool false)), none⟩,
    ⟨(some 2), .assign (.tmp 52), none⟩] [2])
  .ret))
theorem impl_isPostmark_k : fnOk Tryz.prog (fun _ => false) 40 = some (impl_isPostmark_c.strip, 53, [.tmp 2]) := by kernel_rfl
/-- head: [1, 3, 9, 10] -/
def impl_shownBy_l0 : ACode := (.seq (.reg [⟨(some 11), .binOp .lss 3 (.tmp 10) (.tmp 9) 3, none⟩] [1, 3, 9, 10, 11])
  (.seq (.cond (.tmp 11) .skip
  (.exit 0))
  (.seq (.block 1 (.seq (.reg [⟨(some 12), .move (.tmp 10), none⟩,
    ⟨(some 4), .assign (.tmp 12), none⟩] [1, 3, 4, 9, 10])
  (.seq (.reg [⟨(some 13), .fieldAddr 34 (.tmp 1) 5, none⟩,
    ⟨(some 14), .load 9 (.tmp 13), none⟩,
    ⟨(some 15), .move (.tmp 4), none⟩,
    ⟨(some 16), .index 9 (.tmp 14) (.tmp 15), none⟩,
    ⟨(some 17), .binOp .eql 5 (.tmp 16) (.const (.int .u8 120)) 5, none⟩] [1, 3, 4, 9, 10, 17])
  (.cond (.tmp 17) (.reg [⟨(some 18), .move (.tmp 3), none⟩,
    ⟨(some 19), .move (.tmp 4), none⟩,
    ⟨(some 20), .indexAddr 22 (.tmp 18) (.tmp 19), none⟩,
    ⟨none, .store 5 (.tmp 20) (.const (.int .u8 63)), none⟩] [1, 3, 9, 10])
  .skip))))
  (.reg [⟨(some 21), .binOp .add 3 (.tmp 10) (.const (.int .i64 1)) 3, none⟩,
    ⟨(some 10), .move (.tmp 21), none⟩] [1, 3, 9, 10]))))
/-- loop.example/g01062/impl.shownBy: number 42, params [0] -/
def impl_shownBy_c : ACode := (.seq (.reg [⟨(some 1), .box 34 (.tmp 0), none⟩,
    ⟨(some 2), .assign (.const (.string ⟨#[]⟩)), none⟩] [1])
  (.seq (.reg [⟨(some 5), .fieldAddr 34 (.tmp 1) 1, none⟩,
    ⟨(some 6), .load 9 (.tmp 5), none⟩,
    ⟨(some 7), .convert 9 22 (.tmp 6), none⟩,
    ⟨(some 3), .assign (.tmp 7), none⟩] [1, 3])
  (.seq (.seq (.reg [⟨(some 8), .move (.tmp 3), none⟩,
    ⟨(some 9), .call ⟨.builtin .len, #[(.tmp 8)], #[22]⟩, none⟩,
    ⟨(some 10), .move (.const (.int .i64 0)), none⟩] [1, 3, 9, 10])
  (.block 0 (.loop impl_shownBy_l0)))
  (.seq (.reg [⟨(some 22), .move (.tmp 3), none⟩,
    ⟨(some 23), .convert 22 9 (.tmp 22), none⟩,
    ⟨(some 2), .assign (.tmp 23), none⟩] [2])
  .ret))))
theorem impl_shownBy_k : fnOk Tryz.prog (fun _ => false) 42 = some (impl_shownBy_c.strip, 24, [.tmp 2]) := by kernel_rfl
/-- head: [1, 3, 4] -/
def spec_l11One_l0 : ACode := (.seq (.seq (.reg [⟨(some 44), .move (.tmp 4), none⟩,
    ⟨(some 45), .fieldAddr 34 (.tmp 1) 5, none⟩,
    ⟨(some 46), .load 9 (.tmp 45), none⟩,
    ⟨(some 47), .call ⟨.builtin .len, #[(.tmp 46)], #[9]⟩, none⟩,
    ⟨(some 48), .binOp .lss 3 (.tmp 44) (.tmp 47) 3, none⟩] [1, 3, 4, 48])
  (.cond (.tmp 48) .skip
  (.exit 0)))
  (.seq (.block 1 (.seq (.seq (.reg [⟨(some 51), .fieldAddr 34 (.tmp 1) 5, none⟩,
    ⟨(some 52), .load 9 (.tmp 51), none⟩,
    ⟨(some 53), .move (.tmp 4), none⟩,
    ⟨(some 54), .index 9 (.tmp 52) (.tmp 53), none⟩,
    ⟨(some 55), .binOp .neq 5 (.tmp 54) (.const (.int .u8 46)) 5, none⟩,
    ⟨(some 56), .move (.tmp 55), none⟩,
    ⟨(some 57), .fieldAddr 34 (.tmp 1) 5, (some (some 56, true))⟩,
    ⟨(some 58), .load 9 (.tmp 57), (some (some 56, true))⟩,
    ⟨(some 59), .move (.tmp 4), (some (some 56, true))⟩,
    ⟨(some 60), .index 9 (.tmp 58) (.tmp 59), (some (some 56, true))⟩,
    ⟨(some 61), .binOp .neq 5 (.tmp 60) (.const (.int .u8 120)) 5, (some (some 56, true))⟩,
    ⟨(some 62), .pick (.tmp 56) (.tmp 61) (.const (.bool false)), none⟩] [1, 3, 4, 62])
  (.cond (.tmp 62) (.seq (.reg [⟨(some 2), .assign (.const (.bool false)), none⟩] [2])
  .ret)
  .skip))
  (.reg [⟨(some 63), .move (.tmp 3), none⟩,
    ⟨(some 64), .move (.tmp 63), none⟩,
    ⟨(some 65), .fieldAddr 34 (.tmp 1) 5, (some (some 64, false))⟩,
    ⟨(some 66), .load 9 (.tmp 65), (some (some 64, false))⟩,
    ⟨(some 67), .move (.tmp 4), (some (some 64, false))⟩,
    ⟨(some 68), .index 9 (.tmp 66) (.tmp 67), (some (some 64, false))⟩,
    ⟨(some 69), .binOp .eql 5 (.tmp 68) (.const (.int .u8 46)) 5, (some (some 64, false))⟩,
    ⟨(some 70), .pick (.tmp 64) (.const (.bool true)) (.tmp 69), none⟩,
    ⟨(some 3), .assign (.tmp 70), none⟩] [1, 3, 4])))
  (.reg [⟨(some 49), .move (.tmp 4), none⟩,
    ⟨(some 50), .binOp .add 3 (.tmp 49) (.const (.int .i64 1)) 3, none⟩,
    ⟨(some 4), .assign (.tmp 50), none⟩] [1, 3, 4])))
/-- loop.example/g01062/spec.l11One: number 43, params [0] -/
def spec_l11One_c : ACode := (.seq (.reg [⟨(some 1), .box 34 (.tmp 0), none⟩,
    ⟨(some 2), .assign (.const (.bool false)), none⟩] [1])
  (.seq (.seq (.reg [⟨(some 5), .fieldAddr 34 (.tmp 1) 0, none⟩,
    ⟨(some 6), .load 3 (.tmp 5), none⟩,
    ⟨(some 7), .call ⟨.value (.func 52), #[(.tmp 6), (.const (.int .i64 1)), (.const (.int .i64 999))], #[3, 3, 3]⟩, none⟩,
    ⟨(some 8), .unOp .not 4 (.tmp 7), none⟩,
    ⟨(some 9), .move (.tmp 8), none⟩,
    ⟨(some 10), .fieldAddr 34 (.tmp 1) 1, (some (some 9, false))⟩,
    ⟨(some 11), .load 9 (.tmp 10), (some (some 9, false))⟩,
    ⟨(some 12), .call ⟨.value (.func 37), #[(.tmp 11)], #[9]⟩, (some (some 9, false))⟩,
    ⟨(some 13), .unOp .not 4 (.tmp 12), (some (some 9, false))⟩,
    ⟨(some 14), .pick (.tmp 9) (.const (.bool true)) (.tmp 13), none⟩,
    ⟨(some 15), .move (.tmp 14), none⟩,
    ⟨(some 16), .fieldAddr 34 (.tmp 1) 2, (some (some 15, false))⟩,
    ⟨(some 17), .load 3 (.tmp 16), (some (some 15, false))⟩,
    ⟨(some 18), .call ⟨.value (.func 52), #[(.tmp 17), (.const (.int .i64 1)), (.const (.int .i64 5))], #[3, 3, 3]⟩, (some (some 15, false))⟩,
    ⟨(some 19), .unOp .not 4 (.tmp 18), (some (some 15, false))⟩,
    ⟨(some 20), .pick (.tmp 15) (.const (.bool true)) (.tmp 19), none⟩,
    ⟨(some 21), .move (.tmp 20), none⟩,
    ⟨(some 22), .fieldAddr 34 (.tmp 1) 4, (some (some 21, false))⟩,
    ⟨(some 23), .load 3 (.tmp 22), (some (some 21, false))⟩,
    ⟨(some 24), .call ⟨.value (.func 29), #[(.tmp 23)], #[3]⟩, (some (some 21, false))⟩,
    ⟨(some 25), .unOp .not 4 (.tmp 24), (some (some 21, false))⟩,
    ⟨(some 26), .pick (.tmp 21) (.const (.bool true)) (.tmp 25), none⟩,
    ⟨(some 27), .move (.tmp 26), none⟩,
    ⟨(some 28), .fieldAddr 34 (.tmp 1) 3, (some (some 27, false))⟩,
    ⟨(some 29), .load 3 (.tmp 28), (some (some 27, false))⟩,
    ⟨(some 30), .fieldAddr 34 (.tmp 1) 4, (some (some 27, false))⟩,
    ⟨(some 31), .load 3 (.tmp 30), (some (some 27, false))⟩,
    ⟨(some 32), .call ⟨.value (.func 52), #[(.tmp 29), (.const (.int .i64 0)), (.tmp 31)], #[3, 3, 3]⟩, (some (some 27, false))⟩,
    ⟨(some 33), .unOp .not 4 (.tmp 32), (some (some 27, false))⟩,
    ⟨(some 34), .pick (.tmp 27) (.const (.bool true)) (.tmp 33), none⟩,
    ⟨(some 35), .move (.tmp 34), none⟩,
    ⟨(some 36), .fieldAddr 34 (.tmp 1) 5, (some (some 35, false))⟩,
    ⟨(some 37), .load 9 (.tmp 36), (some (some 35, false))⟩,
    ⟨(some 38), .call ⟨.builtin .len, #[(.tmp 37)], #[9]⟩, (some (some 35, false))⟩,
    ⟨(some 39), .fieldAddr 34 (.tmp 1) 1, (some (some 35, false))⟩,
    ⟨(some 40), .load 9 (.tmp 39), (some (some 35, false))⟩,
    ⟨(some 41), .call ⟨.builtin .len, #[(.tmp 40)], #[9]⟩, (some (some 35, false))⟩,
    ⟨(some 42), .binOp .neq 3 (.tmp 38) (.tmp 41) 3, (some (some 35, false))⟩,
    ⟨(some 43), .pick (.tmp 35) (.const (.bool true)) (.tmp 42), none⟩] [1, 43])
  (.cond (.tmp 43) (.seq (.reg [⟨(some 2), .assign (.const (.bool false)), none⟩] [2])
  .ret)
  .skip))
  (.seq (.reg [⟨(some 3), .assign (.const (.bool false)), none⟩] [1, 3])
  (.seq (.seq (.reg [⟨(some 4), .assign (.const (.int .i64 0)), none⟩] [1, 3, 4])
  (.block 0 (.loop spec_l11One_l0)))
  (.seq (.reg [⟨(some 71), .move (.tmp 3), none⟩,
    ⟨(some 2), .assign (.tmp 71), none⟩] [2])
  .ret)))))
theorem spec_l11One_k : fnOk Tryz.prog (fun _ => false) 43 = some (spec_l11One_c.strip, 72, [.tmp 2]) := by kernel_rfl
/-- loop.example/g01062/spec.l1Num: number 44, params [0] -/
def spec_l1Num_c : ACode := (.seq (.reg [⟨(some 2), .assign (.const (.string ⟨#[]⟩)), none⟩] [0])
  (.seq (.seq (.reg [⟨(some 3), .move (.tmp 0), none⟩,
    ⟨(some 4), .binOp .lss 3 (.tmp 3) (.const (.int .i64 0)) 3, none⟩] [0, 4])
  (.cond (.tmp 4) (.seq (.reg [⟨(some 5), .move (.tmp 0), none⟩,
    ⟨(some 6), .unOp .neg 3 (.tmp 5), none⟩,
    ⟨(some 7), .call ⟨.value (.func 44), #[(.tmp 6)], #[3]⟩, none⟩,
    ⟨(some 8), .binOp .add 9 (.const (.string ⟨#[45]⟩)) (.tmp 7) 9, none⟩,
    ⟨(some 2), .assign (.tmp 8), none⟩] [2])
  .ret)
  .skip))
  (.seq (.seq (.reg [⟨(some 9), .move (.tmp 0), none⟩,
    ⟨(some 10), .binOp .lss 3 (.tmp 9) (.const (.int .i64 10)) 3, none⟩] [0, 10])
  (.cond (.tmp 10) (.seq (.reg [⟨(some 11), .move (.tmp 0), none⟩,
    ⟨(some 12), .move (.tmp 0), none⟩,
    ⟨(some 13), .binOp .add 3 (.tmp 12) (.const (.int .i64 1)) 3, none⟩,
    ⟨(some 14), .slice 9 (.const (.string ⟨#[48, 49, 50, 51, 52, 53, 54, 55, 56, 57]⟩)) (some (.tmp 11)) (some (.tmp 13)) none, none⟩,
    ⟨(some 2), .assign (.tmp 14), none⟩] [2])
  .ret)
  .skip))
  (.seq (.regQ [⟨(some 15), .move (.tmp 0), none⟩,
    ⟨(some 16), .binOp .quo 3 (.tmp 15) (.const (.int .i64 10)) 3, none⟩,
    ⟨(some 17), .call ⟨.value (.func 44), #[(.tmp 16)], #[3]⟩, none⟩,
    ⟨(some 18), .move (.tmp 0), none⟩,
    ⟨(some 19), .binOp .rem 3 (.tmp 18) (.const (.int .i64 10)) 3, none⟩,
    ⟨(some 20), .move (.tmp 0), none⟩,
    ⟨(some 21), .binOp .rem 3 (.tmp 20) (.const (.int .i64 10)) 3, none⟩,
    ⟨(some 22), .binOp .add 3 (.tmp 21) (.const (.int .i64 1)) 3, none⟩,
    ⟨(some 23), .slice 9 (.const (.string ⟨#[48, 49, 50, 51, 52, 53, 54, 55, 56, 57]⟩)) (some (.tmp 19)) (some (.tmp 22)) none, none⟩,
    ⟨(some 24), .binOp .add 9 (.tmp 17) (.tmp 23) 9, none⟩,
    ⟨(some 2), .assign (.tmp 24), none⟩] [2])
  .ret))))
theorem spec_l1Num_k : fnOk Tryz.prog (fun _ => false) 44 = some (spec_l1Num_c.strip, 25, [.tmp 2]) := by kernel_rfl
/-- head: [1, 3, 4] -/
def spec_l11Shown_l0 : ACode := (.seq (.seq (.reg [⟨(some 5), .move (.tmp 4), none⟩,
    ⟨(some 6), .fieldAddr 34 (.tmp 1) 1, none⟩,
    ⟨(some 7), .load 9 (.tmp 6), none⟩,
    ⟨(some 8), .call ⟨.builtin .len, #[(.tmp 7)], #[9]⟩, none⟩,
    ⟨(some 9), .binOp .lss 3 (.tmp 5) (.tmp 8) 3, none⟩] [1, 3, 4, 9])
  (.cond (.tmp 9) .skip
  (.exit 0)))
  (.seq (.block 1 (.seq (.reg [⟨(some 12), .fieldAddr 34 (.tmp 1) 5, none⟩,
    ⟨(some 13), .load 9 (.tmp 12), none⟩,
    ⟨(some 14), .move (.tmp 4), none⟩,
    ⟨(some 15), .index 9 (.tmp 13) (.tmp 14), none⟩,
    ⟨(some 16), .binOp .eql 5 (.tmp 15) (.const (.int .u8 120)) 5, none⟩] [1, 3, 4, 16])
  (.cond (.tmp 16) (.reg [⟨(some 17), .move (.tmp 3), none⟩,
    ⟨(some 18), .binOp .add 9 (.tmp 17) (.const (.string ⟨#[63]⟩)) 9, none⟩,
    ⟨(some 3), .assign (.tmp 18), none⟩] [1, 3, 4])
  (.reg [⟨(some 19), .move (.tmp 3), none⟩,
    ⟨(some 20), .fieldAddr 34 (.tmp 1) 1, none⟩,
    ⟨(some 21), .load 9 (.tmp 20), none⟩,
    ⟨(some 22), .move (.tmp 4), none⟩,
    ⟨(some 23), .move (.tmp 4), none⟩,
    ⟨(some 24), .binOp .add 3 (.tmp 23) (.const (.int .i64 1)) 3, none⟩,
    ⟨(some 25), .slice 9 (.tmp 21) (some (.tmp 22)) (some (.tmp 24)) none, none⟩,
    ⟨(some 26), .binOp .add 9 (.tmp 19) (.tmp 25) 9, none⟩,
    ⟨(some 3), .assign (.tmp 26), none⟩] [1, 3, 4]))))
  (.reg [⟨(some 10), .move (.tmp 4), none⟩,
    ⟨(some 11), .binOp .add 3 (.tmp 10) (.const (.int .i64 1)) 3, none⟩,
    ⟨(some 4), .assign (.tmp 11), none⟩] [1, 3, 4])))
/-- loop.example/g01062/spec.l11Shown: number 45, params [0] -/
def spec_l11Shown_c : ACode := (.seq (.reg [⟨(some 1), .box 34 (.tmp 0), none⟩,
    ⟨(some 2), .assign (.const (.string ⟨#[]⟩)), none⟩] [1])
  (.seq (.reg [⟨(some 3), .assign (.const (.string ⟨#[]⟩)), none⟩] [1, 3])
  (.seq (.seq (.reg [⟨(some 4), .assign (.const (.int .i64 0)), none⟩] [1, 3, 4])
  (.block 0 (.loop spec_l11Shown_l0)))
  (.seq (.reg [⟨(some 27), .move (.tmp 3), none⟩,
    ⟨(some 2), .assign (.tmp 27), none⟩] [2])
  .ret))))
theorem spec_l11Shown_k : fnOk Tryz.prog (fun _ => false) 45 = some (spec_l11Shown_c.strip, 28, [.tmp 2]) := by kernel_rfl
/-- head: [0, 1, 7, 8] -/
def slices_IndexFunc___impl_Postmark_impl_Postmark__l0 : ACode := (.seq (.reg [⟨(some 9), .binOp .lss 3 (.tmp 8) (.tmp 7) 3, none⟩] [0, 1, 7, 8, 9])
  (.seq (.cond (.tmp 9) .skip
  (.exit 0))
  (.seq (.block 1 (.seq (.reg [⟨(some 10), .move (.tmp 8), none⟩,
    ⟨(some 5), .assign (.tmp 10), none⟩] [0, 1, 5, 7, 8])
  (.seq (.reg [⟨(some 11), .move (.tmp 1), none⟩,
    ⟨(some 12), .move (.tmp 0), none⟩,
    ⟨(some 13), .move (.tmp 5), none⟩,
    ⟨(some 14), .indexAddr 24 (.tmp 12) (.tmp 13), none⟩,
    ⟨(some 15), .load 34 (.tmp 14), none⟩,
    ⟨(some 16), .call ⟨.value (.tmp 11), #[(.tmp 15)], #[34]⟩, none⟩] [0, 1, 5, 7, 8, 16])
  (.cond (.tmp 16) (.seq (.reg [⟨(some 17), .move (.tmp 5), none⟩,
    ⟨(some 4), .assign (.tmp 17), none⟩] [4])
  .ret)
  .skip))))
  (.reg [⟨(some 18), .binOp .add 3 (.tmp 8) (.const (.int .i64 1)) 3, none⟩,
    ⟨(some 8), .move (.tmp 18), none⟩] [0, 1, 7, 8]))))
/-- slices.IndexFunc[[]loop.example/g01062/impl.Postmark,loop.example/g01062/impl.Postmark]: number 50, params [0, 1] -/
def slices_IndexFunc___impl_Postmark_impl_Postmark__c : ACode := (.seq (.reg [⟨(some 4), .assign (.const (.int .i64 0)), none⟩] [0, 1])
  (.seq (.seq (.reg [⟨(some 6), .move (.tmp 0), none⟩,
    ⟨(some 7), .call ⟨.builtin .len, #[(.tmp 6)], #[24]⟩, none⟩,
    ⟨(some 8), .move (.const (.int .i64 0)), none⟩] [0, 1, 7, 8])
  (.block 0 (.loop slices_IndexFunc___impl_Postmark_impl_Postmark__l0)))
  (.seq (.reg [⟨(some 4), .assign (.const (.int .i64 (-1))), none⟩] [4])
  .ret)))
theorem slices_IndexFunc___impl_Postmark_impl_Postmark__k : fnOk Tryz.prog (fun _ => false) 50 = some (slices_IndexFunc___impl_Postmark_impl_Postmark__c.strip, 19, [.tmp 4]) := by kernel_rfl
/-- loop.example/g01062/impl.postmarkAt$1: number 51, params [0] -/
def impl_postmarkAt_1_c : ACode := (.seq (.reg [⟨(some 2), .box 34 (.tmp 0), none⟩,
    ⟨(some 3), .assign (.const (.bool false)), none⟩] [1, 2])
  (.seq (.reg [⟨(some 4), .fieldAddr 34 (.tmp 2) 0, none⟩,
    ⟨(some 5), .load 3 (.tmp 4), none⟩,
    ⟨(some 6), .load 3 (.tmp 1), none⟩,
    ⟨(some 7), .binOp .eql 3 (.tmp 5) (.tmp 6) 3, none⟩,
    ⟨(some 3), .assign (.tmp 7), none⟩] [3])
  .ret))
theorem impl_postmarkAt_1_k : fnOk Tryz.prog (fun _ => false) 51 = some (impl_postmarkAt_1_c.strip, 8, [.tmp 3]) := by kernel_rfl
/-- loop.example/g01062/spec.l1In: number 52, params [0, 1, 2] -/
def spec_l1In_c : ACode := (.seq (.reg [⟨(some 6), .assign (.const (.bool false)), none⟩] [0, 1, 2])
  (.seq (.reg [⟨(some 7), .move (.tmp 0), none⟩,
    ⟨(some 8), .move (.tmp 1), none⟩,
    ⟨(some 9), .binOp .geq 3 (.tmp 7) (.tmp 8) 3, none⟩,
    ⟨(some 10), .move (.tmp 9), none⟩,
    ⟨(some 11), .move (.tmp 0), (some (some 10, true))⟩,
    ⟨(some 12), .move (.tmp 2), (some (some 10, true))⟩,
    ⟨(some 13), .binOp .leq 3 (.tmp 11) (.tmp 12) 3, (some (some 10, true))⟩,
    ⟨(some 14), .pick (.tmp 10) (.tmp 13) (.const (.bool false)), none⟩,
    ⟨(some 6), .assign (.tmp 14), none⟩] [6])
  .ret))
theorem spec_l1In_k : fnOk Tryz.prog (fun _ => false) 52 = some (spec_l1In_c.strip, 15, [.tmp 6]) := by kernel_rfl
/-- cmp.Less[string]: number 67, params [0, 1] -/
def cmp_Less_string__c : ACode := (.seq (.reg [⟨(some 4), .assign (.const (.bool false)), none⟩] [0, 1])
  (.seq (.reg [⟨(some 5), .move (.tmp 0), none⟩,
    ⟨(some 6), .call ⟨.value (.func 86), #[(.tmp 5)], #[9]⟩, none⟩,
    ⟨(some 7), .move (.tmp 6), none⟩,
    ⟨(some 8), .move (.tmp 1), (some (some 7, true))⟩,
    ⟨(some 9), .call ⟨.value (.func 86), #[(.tmp 8)], #[9]⟩, (some (some 7, true))⟩,
    ⟨(some 10), .unOp .not 4 (.tmp 9), (some (some 7, true))⟩,
    ⟨(some 11), .pick (.tmp 7) (.tmp 10) (.const (.bool false)), none⟩,
    ⟨(some 12), .move (.tmp 11), none⟩,
    ⟨(some 13), .move (.tmp 0), (some (some 12, false))⟩,
    ⟨(some 14), .move (.tmp 1), (some (some 12, false))⟩,
    ⟨(some 15), .binOp .lss 9 (.tmp 13) (.tmp 14) 9, (some (some 12, false))⟩,
    ⟨(some 16), .pick (.tmp 12) (.const (.bool true)) (.tmp 15), none⟩,
    ⟨(some 4), .assign (.tmp 16), none⟩] [4])
  .ret))
theorem cmp_Less_string__k : fnOk Tryz.prog (fun _ => false) 67 = some (cmp_Less_string__c.strip, 17, [.tmp 4]) := by kernel_rfl
/-- slices.nextPowerOfTwo: number 82, params [0] -/
def slices_nextPowerOfTwo_c : ACode := (.seq (.reg [⟨(some 2), .assign (.const (.int .u64 0)), none⟩] [0])
  (.seq (.reg [⟨(some 3), .move (.tmp 0), none⟩,
    ⟨(some 4), .convert 3 74 (.tmp 3), none⟩,
    ⟨(some 5), .call ⟨.value (.func 54), #[(.tmp 4)], #[74]⟩, none⟩,
    ⟨(some 6), .binOp .shl 74 (.const (.int .u64 1)) (.tmp 5) 3, none⟩,
    ⟨(some 2), .assign (.tmp 6), none⟩] [2])
  .ret))
theorem slices_nextPowerOfTwo_k : fnOk Tryz.prog (fun _ => false) 82 = some (slices_nextPowerOfTwo_c.strip, 7, [.tmp 2]) := by kernel_rfl
/-- (*slices.xorshift).Next: number 83, params [0] -/
def __slices_xorshift__Next_c : ACode := (.seq (.reg [⟨(some 2), .assign (.const (.int .u64 0)), none⟩] [0])
  (.seq (.regT [⟨(some 3), .move (.tmp 0), none⟩,
    ⟨(some 4), .nilCheck (.tmp 3), none⟩,
    ⟨(some 5), .load 99 (.tmp 4), none⟩,
    ⟨(some 6), .move (.tmp 0), none⟩,
    ⟨(some 7), .nilCheck (.tmp 6), none⟩,
    ⟨(some 8), .load 99 (.tmp 7), none⟩,
    ⟨(some 9), .binOp .shl 99 (.tmp 8) (.const (.int .u64 13)) 74, none⟩,
    ⟨(some 10), .binOp .xor 99 (.tmp 5) (.tmp 9) 99, none⟩,
    ⟨(some 11), .nilCheck (.tmp 3), none⟩]
    [⟨none, .store 99 (.tmp 11) (.tmp 10), none⟩] [0])
  (.seq (.regT [⟨(some 12), .move (.tmp 0), none⟩,
    ⟨(some 13), .nilCheck (.tmp 12), none⟩,
    ⟨(some 14), .load 99 (.tmp 13), none⟩,
    ⟨(some 15), .move (.tmp 0), none⟩,
    ⟨(some 16), .nilCheck (.tmp 15), none⟩,
    ⟨(some 17), .load 99 (.tmp 16), none⟩,
    ⟨(some 18), .binOp .shr 99 (.tmp 17) (.const (.int .u64 7)) 74, none⟩,
    ⟨(some 19), .binOp .xor 99 (.tmp 14) (.tmp 18) 99, none⟩,
    ⟨(some 20), .nilCheck (.tmp 12), none⟩]
    [⟨none, .store 99 (.tmp 20) (.tmp 19), none⟩] [0])
  (.seq (.regT [⟨(some 21), .move (.tmp 0), none⟩,
    ⟨(some 22), .nilCheck (.tmp 21), none⟩,
    ⟨(some 23), .load 99 (.tmp 22), none⟩,
    ⟨(some 24), .move (.tmp 0), none⟩,
    ⟨(some 25), .nilCheck (.tmp 24), none⟩,
    ⟨(some 26), .load 99 (.tmp 25), none⟩,
    ⟨(some 27), .binOp .shl 99 (.tmp 26) (.const (.int .u64 17)) 74, none⟩,
    ⟨(some 28), .binOp .xor 99 (.tmp 23) (.tmp 27) 99, none⟩,
    ⟨(some 29), .nilCheck (.tmp 21), none⟩]
    [⟨none, .store 99 (.tmp 29) (.tmp 28), none⟩] [0])
  (.seq (.reg [⟨(some 30), .move (.tmp 0), none⟩,
    ⟨(some 31), .nilCheck (.tmp 30), none⟩,
    ⟨(some 32), .load 99 (.tmp 31), none⟩,
    ⟨(some 2), .assign (.tmp 32), none⟩] [2])
  .ret)))))
theorem __slices_xorshift__Next_k : fnOk Tryz.prog (fun _ => false) 83 = some (__slices_xorshift__Next_c.strip, 33, [.tmp 2]) := by kernel_rfl
/-- cmp.isNaN[string]: number 86, params [0] -/
def cmp_isNaN_string__c : ACode := (.seq (.reg [⟨(some 2), .assign (.const (.bool false)), none⟩] [0])
  (.seq (.reg [⟨(some 3), .move (.tmp 0), none⟩,
    ⟨(some 4), .move (.tmp 0), none⟩,
    ⟨(some 5), .binOp .neq 9 (.tmp 3) (.tmp 4) 9, none⟩,
    ⟨(some 2), .assign (.tmp 5), none⟩] [2])
  .ret))
theorem cmp_isNaN_string__k : fnOk Tryz.prog (fun _ => false) 86 = some (cmp_isNaN_string__c.strip, 6, [.tmp 2]) := by kernel_rfl
end Go.Proofs.YtnehhdcaknppnaaGreatDoor
