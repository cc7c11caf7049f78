/- Printed by a program of ours: the functions' abstract code and facts on their types. -/
import Derived.Test.YtjiffkjeijfilaaCoE
set_option maxRecDepth 8000
namespace Go.Proofs.Ytjiffkjeijfilaa
open Go Go.RowKit
@[simp] theorem ty_88 : tyK Try.prog 88 = some (.obj 3) := by kernel_rfl
@[simp] theorem fld_88_0 : fldK Try.prog 88 0 = some 0 := by kernel_rfl
@[simp] theorem fld_88_1 : fldK Try.prog 88 1 = some 1 := by kernel_rfl
@[simp] theorem fld_88_2 : fldK Try.prog 88 2 = some 2 := by kernel_rfl
@[simp] theorem pl_88 : plK Try.prog 88 = some (some [(0, 1), (1, 1), (2, 1)]) := by kernel_rfl
@[simp] theorem zero_88 : zeroK Try.prog 88 = some [.nils, .int .i64 0, .int .u64 0] := by kernel_rfl
/-- slots: [30, 31, 32, 33] -/
def laws_FnCovers_t19 : ACode := (.cut [30, 31, 32, 33] (.seq (.reg [⟨(some 207), .move (.tmp 30), none⟩,
    ⟨(some 208), .move (.tmp 32), none⟩,
    ⟨(some 209), .binOp .eql 9 (.tmp 207) (.tmp 208) 9, none⟩,
    ⟨(some 210), .move (.tmp 209), none⟩,
    ⟨(some 211), .move (.tmp 31), (some (some 210, true))⟩,
    ⟨(some 212), .move (.tmp 33), (some (some 210, true))⟩,
    ⟨(some 213), .binOp .eql 4 (.tmp 211) (.tmp 212) 4, (some (some 210, true))⟩,
    ⟨(some 214), .pick (.tmp 210) (.tmp 213) (.const (.bool false)), none⟩,
    ⟨(some 2), .assign (.tmp 214), none⟩] [2])
  .ret))
/-- slots: [29, 30, 31] -/
def laws_FnCovers_t18 : ACode := (.cut [29, 30, 31] (.seq (.reg [⟨(some 203), .move (.tmp 29), none⟩,
    ⟨(some 204), .call ⟨.value (.func 25), #[(.tmp 203)], #[3]⟩, none⟩,
    ⟨(some 202), .move (.tmp 204), none⟩,
    ⟨(some 205), .extract (.tmp 202) 0, none⟩,
    ⟨(some 206), .extract (.tmp 202) 1, none⟩,
    ⟨(some 32), .assign (.tmp 205), none⟩,
    ⟨(some 33), .assign (.tmp 206), none⟩] [30, 31, 32, 33])
  laws_FnCovers_t19))
/-- slots: [29] -/
def laws_FnCovers_t17 : ACode := (.cut [29] (.seq (.reg [⟨(some 198), .move (.tmp 29), none⟩,
    ⟨(some 199), .call ⟨.value (.func 24), #[(.tmp 198)], #[3]⟩, none⟩,
    ⟨(some 197), .move (.tmp 199), none⟩,
    ⟨(some 200), .extract (.tmp 197) 0, none⟩,
    ⟨(some 201), .extract (.tmp 197) 1, none⟩,
    ⟨(some 30), .assign (.tmp 200), none⟩,
    ⟨(some 31), .assign (.tmp 201), none⟩] [29, 30, 31])
  laws_FnCovers_t18))
/-- slots: [0] -/
def laws_FnCovers_t16 : ACode := (.cut [0] (.seq (.reg [⟨(some 195), .move (.tmp 0), none⟩,
    ⟨(some 196), .call ⟨.value (.func 23), #[(.tmp 195)], #[22]⟩, none⟩,
    ⟨(some 29), .assign (.tmp 196), none⟩] [29])
  laws_FnCovers_t17))
/-- slots: [0, 28] -/
def laws_FnCovers_t15 : ACode := (.cut [0, 28] (.seq (.seq (.regF []
    [190, 192, 194] [.load 27 (.tmp 28)] [] []
    [⟨(some 190), .load 27 (.tmp 28), none⟩,
    ⟨(some 191), .call ⟨.value (.func 21), #[(.tmp 190)], #[27]⟩, none⟩,
    ⟨(some 192), .load 27 (.tmp 28), none⟩,
    ⟨(some 193), .call ⟨.value (.func 22), #[(.tmp 192)], #[27]⟩, none⟩,
    ⟨(some 194), .binOp .neq 4 (.tmp 191) (.tmp 193) 4, none⟩] [0, 194])
  (.cond (.tmp 194) (.seq (.reg [⟨(some 2), .assign (.const (.bool false)), none⟩] [2])
  .ret)
  .skip))
  laws_FnCovers_t16))
/-- slots: [0] -/
def laws_FnCovers_t14 : ACode := (.cut [0] (.seq (.reg [⟨(some 188), .move (.tmp 0), none⟩,
    ⟨(some 189), .call ⟨.value (.func 20), #[(.tmp 188)], #[22]⟩, none⟩,
    ⟨(some 28), .alloc 27, none⟩,
    ⟨none, .store 27 (.tmp 28) (.tmp 189), none⟩] [0, 28])
  laws_FnCovers_t15))
/-- slots: [0, 4, 5, 21, 22] -/
def laws_FnCovers_t13 : ACode := (.cut [0, 4, 5, 21, 22] (.seq (.seq (.reg [⟨(some 173), .move (.tmp 22), none⟩] [0, 4, 5, 21, 173])
  (.cond (.tmp 173) (.seq (.reg [⟨(some 174), .load 27 (.tmp 5), none⟩,
    ⟨(some 25), .alloc 27, none⟩,
    ⟨none, .store 27 (.tmp 25) (.tmp 174), none⟩] [0, 4, 5, 21, 25])
  (.seq (.reg [⟨(some 175), .fieldAddr 27 (.tmp 5) 7, none⟩,
    ⟨(some 176), .load 3 (.tmp 175), none⟩,
    ⟨(some 177), .move (.tmp 21), none⟩,
    ⟨(some 178), .binOp .add 3 (.tmp 176) (.tmp 177) 3, none⟩,
    ⟨(some 179), .fieldAddr 27 (.tmp 25) 7, none⟩,
    ⟨none, .store 3 (.tmp 179) (.tmp 178), none⟩] [0, 4, 25])
  (.seq (.reg [⟨(some 181), .move (.tmp 4), none⟩,
    ⟨(some 182), .load 27 (.tmp 25), none⟩,
    ⟨(some 183), .call ⟨.value (.func 14), #[(.tmp 181), (.tmp 182)], #[25, 27]⟩, none⟩,
    ⟨(some 180), .move (.tmp 183), none⟩,
    ⟨(some 184), .extract (.tmp 180) 0, none⟩,
    ⟨(some 185), .extract (.tmp 180) 1, none⟩,
    ⟨(some 26), .assign (.tmp 184), none⟩,
    ⟨(some 27), .assign (.tmp 185), none⟩] [0, 27])
  (.seq (.reg [⟨(some 186), .move (.tmp 27), none⟩,
    ⟨(some 187), .unOp .not 4 (.tmp 186), none⟩] [0, 187])
  (.cond (.tmp 187) (.seq (.reg [⟨(some 2), .assign (.const (.bool false)), none⟩] [2])
  .ret)
  .skip)))))
  .skip))
  laws_FnCovers_t14))
/-- slots: [0, 4, 5, 15, 21, 22] -/
def laws_FnCovers_t12 : ACode := (.cut [0, 4, 5, 15, 21, 22] (.seq (.seq (.reg [⟨(some 155), .move (.tmp 4), none⟩,
    ⟨(some 156), .load 27 (.tmp 5), none⟩,
    ⟨(some 157), .call ⟨.value (.func 19), #[(.tmp 155), (.tmp 156)], #[25, 27]⟩, none⟩,
    ⟨(some 154), .move (.tmp 157), none⟩,
    ⟨(some 158), .extract (.tmp 154) 0, none⟩,
    ⟨(some 159), .extract (.tmp 154) 1, none⟩,
    ⟨(some 23), .assign (.tmp 158), none⟩,
    ⟨(some 24), .assign (.tmp 159), none⟩] [0, 4, 5, 15, 21, 22, 23, 24])
  (.seq (.reg [⟨(some 160), .move (.tmp 21), none⟩,
    ⟨(some 161), .move (.tmp 23), none⟩,
    ⟨(some 162), .binOp .neq 3 (.tmp 160) (.tmp 161) 3, none⟩,
    ⟨(some 163), .move (.tmp 162), none⟩,
    ⟨(some 164), .move (.tmp 22), (some (some 163, false))⟩,
    ⟨(some 165), .move (.tmp 24), (some (some 163, false))⟩,
    ⟨(some 166), .binOp .neq 4 (.tmp 164) (.tmp 165) 4, (some (some 163, false))⟩,
    ⟨(some 167), .pick (.tmp 163) (.const (.bool true)) (.tmp 166), none⟩,
    ⟨(some 168), .move (.tmp 167), none⟩,
    ⟨(some 169), .move (.tmp 22), (some (some 168, false))⟩,
    ⟨(some 170), .move (.tmp 15), (some (some 168, false))⟩,
    ⟨(some 171), .binOp .neq 4 (.tmp 169) (.tmp 170) 4, (some (some 168, false))⟩,
    ⟨(some 172), .pick (.tmp 168) (.const (.bool true)) (.tmp 171), none⟩] [0, 4, 5, 21, 22, 172])
  (.cond (.tmp 172) (.seq (.reg [⟨(some 2), .assign (.const (.bool false)), none⟩] [2])
  .ret)
  .skip)))
  laws_FnCovers_t13))
/-- slots: [0, 4, 5, 15] -/
def laws_FnCovers_t11 : ACode := (.cut [0, 4, 5, 15] (.seq (.reg [⟨(some 149), .move (.tmp 4), none⟩,
    ⟨(some 150), .load 27 (.tmp 5), none⟩,
    ⟨(some 151), .call ⟨.value (.func 18), #[(.tmp 149), (.tmp 150)], #[25, 27]⟩, none⟩,
    ⟨(some 148), .move (.tmp 151), none⟩,
    ⟨(some 152), .extract (.tmp 148) 0, none⟩,
    ⟨(some 153), .extract (.tmp 148) 1, none⟩,
    ⟨(some 21), .assign (.tmp 152), none⟩,
    ⟨(some 22), .assign (.tmp 153), none⟩] [0, 4, 5, 15, 21, 22])
  laws_FnCovers_t12))
/-- slots: [0, 4, 5, 14, 15] -/
def laws_FnCovers_t10 : ACode := (.cut [0, 4, 5, 14, 15] (.seq (.seq (.reg [⟨(some 122), .move (.tmp 15), none⟩] [0, 4, 5, 14, 15, 122])
  (.cond (.tmp 122) (.seq (.reg [⟨(some 124), .move (.tmp 4), none⟩,
    ⟨(some 125), .fieldAddr 27 (.tmp 5) 5, none⟩,
    ⟨(some 126), .load 3 (.tmp 125), none⟩,
    ⟨(some 127), .fieldAddr 27 (.tmp 5) 7, none⟩,
    ⟨(some 128), .load 3 (.tmp 127), none⟩,
    ⟨(some 129), .move (.tmp 14), none⟩,
    ⟨(some 130), .call ⟨.value (.func 17), #[(.tmp 124), (.tmp 126), (.tmp 128), (.tmp 129)], #[25, 3, 3, 33]⟩, none⟩,
    ⟨(some 123), .move (.tmp 130), none⟩,
    ⟨(some 131), .extract (.tmp 123) 0, none⟩,
    ⟨(some 132), .extract (.tmp 123) 1, none⟩,
    ⟨(some 133), .extract (.tmp 123) 2, none⟩,
    ⟨(some 18), .assign (.tmp 131), none⟩,
    ⟨(some 19), .assign (.tmp 132), none⟩,
    ⟨(some 20), .assign (.tmp 133), none⟩] [0, 4, 5, 15, 18, 19, 20])
  (.seq (.reg [⟨(some 134), .move (.tmp 20), none⟩,
    ⟨(some 135), .unOp .not 4 (.tmp 134), none⟩,
    ⟨(some 136), .move (.tmp 135), none⟩,
    ⟨(some 137), .move (.tmp 18), (some (some 136, false))⟩,
    ⟨(some 138), .fieldAddr 27 (.tmp 5) 6, (some (some 136, false))⟩,
    ⟨(some 139), .load 3 (.tmp 138), (some (some 136, false))⟩,
    ⟨(some 140), .binOp .neq 3 (.tmp 137) (.tmp 139) 3, (some (some 136, false))⟩,
    ⟨(some 141), .pick (.tmp 136) (.const (.bool true)) (.tmp 140), none⟩,
    ⟨(some 142), .move (.tmp 141), none⟩,
    ⟨(some 143), .move (.tmp 19), (some (some 142, false))⟩,
    ⟨(some 144), .fieldAddr 27 (.tmp 5) 8, (some (some 142, false))⟩,
    ⟨(some 145), .load 3 (.tmp 144), (some (some 142, false))⟩,
    ⟨(some 146), .binOp .gtr 3 (.tmp 143) (.tmp 145) 3, (some (some 142, false))⟩,
    ⟨(some 147), .pick (.tmp 142) (.const (.bool true)) (.tmp 146), none⟩] [0, 4, 5, 15, 147])
  (.cond (.tmp 147) (.seq (.reg [⟨(some 2), .assign (.const (.bool false)), none⟩] [2])
  .ret)
  .skip)))
  .skip))
  laws_FnCovers_t11))
/-- slots: [0, 4, 5, 6, 7, 10, 11, 14, 15] -/
def laws_FnCovers_t9 : ACode := (.cut [0, 4, 5, 6, 7, 10, 11, 14, 15] (.seq (.seq (.reg [⟨(some 105), .move (.tmp 7), none⟩,
    ⟨(some 106), .move (.tmp 105), none⟩,
    ⟨(some 107), .move (.tmp 6), (some (some 106, true))⟩,
    ⟨(some 108), .binOp .eql 3 (.tmp 107) (.const (.int .i64 0)) 3, (some (some 106, true))⟩,
    ⟨(some 109), .pick (.tmp 106) (.tmp 108) (.const (.bool false)), none⟩,
    ⟨(some 110), .move (.tmp 109), none⟩,
    ⟨(some 111), .move (.tmp 11), (some (some 110, true))⟩,
    ⟨(some 112), .unOp .not 4 (.tmp 111), (some (some 110, true))⟩,
    ⟨(some 113), .move (.tmp 112), (some (some 110, true))⟩,
    ⟨(some 114), .move (.tmp 10), (some (some 113, false))⟩,
    ⟨(some 115), .binOp .neq 3 (.tmp 114) (.const (.int .i64 0)) 3, (some (some 113, false))⟩,
    ⟨(some 116), .pick (.tmp 113) (.const (.bool true)) (.tmp 115), (some (some 110, true))⟩,
    ⟨(some 117), .move (.tmp 116), (some (some 110, true))⟩,
    ⟨(some 118), .move (.tmp 15), (some (some 117, false))⟩,
    ⟨(some 119), .unOp .not 4 (.tmp 118), (some (some 117, false))⟩,
    ⟨(some 120), .pick (.tmp 117) (.const (.bool true)) (.tmp 119), (some (some 110, true))⟩,
    ⟨(some 121), .pick (.tmp 110) (.tmp 120) (.const (.bool false)), none⟩] [0, 4, 5, 14, 15, 121])
  (.cond (.tmp 121) (.seq (.reg [⟨(some 2), .assign (.const (.bool false)), none⟩] [2])
  .ret)
  .skip))
  laws_FnCovers_t10))
/-- slots: [0, 4, 5, 6, 7, 10, 11, 14, 15] -/
def laws_FnCovers_t8 : ACode := (.cut [0, 4, 5, 6, 7, 10, 11, 14, 15] (.seq (.seq (.reg [⟨(some 91), .move (.tmp 4), none⟩,
    ⟨(some 92), .load 27 (.tmp 5), none⟩,
    ⟨(some 93), .call ⟨.value (.func 15), #[(.tmp 91), (.tmp 92)], #[25, 27]⟩, none⟩,
    ⟨(some 90), .move (.tmp 93), none⟩,
    ⟨(some 94), .extract (.tmp 90) 0, none⟩,
    ⟨(some 95), .extract (.tmp 90) 1, none⟩,
    ⟨(some 16), .assign (.tmp 94), none⟩,
    ⟨(some 17), .assign (.tmp 95), none⟩] [0, 4, 5, 6, 7, 10, 11, 14, 15, 16, 17])
  (.seq (.reg [⟨(some 96), .move (.tmp 15), none⟩,
    ⟨(some 97), .move (.tmp 17), none⟩,
    ⟨(some 98), .binOp .neq 4 (.tmp 96) (.tmp 97) 4, none⟩,
    ⟨(some 99), .move (.tmp 98), none⟩,
    ⟨(some 100), .move (.tmp 14), (some (some 99, false))⟩,
    ⟨(some 101), .move (.tmp 16), (some (some 99, false))⟩,
    ⟨(some 102), .call ⟨.value (.func 16), #[(.tmp 100), (.tmp 101)], #[33, 33]⟩, (some (some 99, false))⟩,
    ⟨(some 103), .unOp .not 4 (.tmp 102), (some (some 99, false))⟩,
    ⟨(some 104), .pick (.tmp 99) (.const (.bool true)) (.tmp 103), none⟩] [0, 4, 5, 6, 7, 10, 11, 14, 15, 104])
  (.cond (.tmp 104) (.seq (.reg [⟨(some 2), .assign (.const (.bool false)), none⟩] [2])
  .ret)
  .skip)))
  laws_FnCovers_t9))
/-- slots: [0, 4, 5, 6, 7, 10, 11] -/
def laws_FnCovers_t7 : ACode := (.cut [0, 4, 5, 6, 7, 10, 11] (.seq (.reg [⟨(some 85), .move (.tmp 4), none⟩,
    ⟨(some 86), .load 27 (.tmp 5), none⟩,
    ⟨(some 87), .call ⟨.value (.func 14), #[(.tmp 85), (.tmp 86)], #[25, 27]⟩, none⟩,
    ⟨(some 84), .move (.tmp 87), none⟩,
    ⟨(some 88), .extract (.tmp 84) 0, none⟩,
    ⟨(some 89), .extract (.tmp 84) 1, none⟩,
    ⟨(some 14), .assign (.tmp 88), none⟩,
    ⟨(some 15), .assign (.tmp 89), none⟩] [0, 4, 5, 6, 7, 10, 11, 14, 15])
  laws_FnCovers_t8))
/-- slots: [0, 3, 4, 5, 6, 7, 10, 11] -/
def laws_FnCovers_t6 : ACode := (.cut [0, 3, 4, 5, 6, 7, 10, 11] (.seq (.seq (.reg [⟨(some 71), .move (.tmp 3), none⟩,
    ⟨(some 72), .load 27 (.tmp 5), none⟩,
    ⟨(some 73), .call ⟨.value (.func 13), #[(.tmp 71), (.tmp 72)], #[24, 27]⟩, none⟩,
    ⟨(some 70), .move (.tmp 73), none⟩,
    ⟨(some 74), .extract (.tmp 70) 0, none⟩,
    ⟨(some 75), .extract (.tmp 70) 1, none⟩,
    ⟨(some 12), .assign (.tmp 74), none⟩,
    ⟨(some 13), .assign (.tmp 75), none⟩] [0, 4, 5, 6, 7, 10, 11, 12, 13])
  (.seq (.reg [⟨(some 76), .move (.tmp 10), none⟩,
    ⟨(some 77), .move (.tmp 12), none⟩,
    ⟨(some 78), .binOp .neq 3 (.tmp 76) (.tmp 77) 3, none⟩,
    ⟨(some 79), .move (.tmp 78), none⟩,
    ⟨(some 80), .move (.tmp 11), (some (some 79, false))⟩,
    ⟨(some 81), .move (.tmp 13), (some (some 79, false))⟩,
    ⟨(some 82), .binOp .neq 4 (.tmp 80) (.tmp 81) 4, (some (some 79, false))⟩,
    ⟨(some 83), .pick (.tmp 79) (.const (.bool true)) (.tmp 82), none⟩] [0, 4, 5, 6, 7, 10, 11, 83])
  (.cond (.tmp 83) (.seq (.reg [⟨(some 2), .assign (.const (.bool false)), none⟩] [2])
  .ret)
  .skip)))
  laws_FnCovers_t7))
/-- slots: [0, 3, 4, 5, 6, 7] -/
def laws_FnCovers_t5 : ACode := (.cut [0, 3, 4, 5, 6, 7] (.seq (.reg [⟨(some 65), .move (.tmp 3), none⟩,
    ⟨(some 66), .load 27 (.tmp 5), none⟩,
    ⟨(some 67), .call ⟨.value (.func 12), #[(.tmp 65), (.tmp 66)], #[24, 27]⟩, none⟩,
    ⟨(some 64), .move (.tmp 67), none⟩,
    ⟨(some 68), .extract (.tmp 64) 0, none⟩,
    ⟨(some 69), .extract (.tmp 64) 1, none⟩,
    ⟨(some 10), .assign (.tmp 68), none⟩,
    ⟨(some 11), .assign (.tmp 69), none⟩] [0, 3, 4, 5, 6, 7, 10, 11])
  laws_FnCovers_t6))
/-- slots: [0, 3, 4, 5, 6, 7] -/
def laws_FnCovers_t4 : ACode := (.cut [0, 3, 4, 5, 6, 7] (.seq (.seq (.reg [⟨(some 50), .move (.tmp 3), none⟩,
    ⟨(some 51), .move (.tmp 4), none⟩,
    ⟨(some 52), .load 27 (.tmp 5), none⟩,
    ⟨(some 53), .call ⟨.value (.func 11), #[(.tmp 50), (.tmp 51), (.tmp 52)], #[24, 25, 27]⟩, none⟩,
    ⟨(some 49), .move (.tmp 53), none⟩,
    ⟨(some 54), .extract (.tmp 49) 0, none⟩,
    ⟨(some 55), .extract (.tmp 49) 1, none⟩,
    ⟨(some 8), .assign (.tmp 54), none⟩,
    ⟨(some 9), .assign (.tmp 55), none⟩] [0, 3, 4, 5, 6, 7, 8, 9])
  (.seq (.reg [⟨(some 56), .move (.tmp 6), none⟩,
    ⟨(some 57), .move (.tmp 8), none⟩,
    ⟨(some 58), .binOp .neq 3 (.tmp 56) (.tmp 57) 3, none⟩,
    ⟨(some 59), .move (.tmp 58), none⟩,
    ⟨(some 60), .move (.tmp 7), (some (some 59, false))⟩,
    ⟨(some 61), .move (.tmp 9), (some (some 59, false))⟩,
    ⟨(some 62), .binOp .neq 4 (.tmp 60) (.tmp 61) 4, (some (some 59, false))⟩,
    ⟨(some 63), .pick (.tmp 59) (.const (.bool true)) (.tmp 62), none⟩] [0, 3, 4, 5, 6, 7, 63])
  (.cond (.tmp 63) (.seq (.reg [⟨(some 2), .assign (.const (.bool false)), none⟩] [2])
  .ret)
  .skip)))
  laws_FnCovers_t5))
/-- slots: [0, 3, 4, 5] -/
def laws_FnCovers_t3 : ACode := (.cut [0, 3, 4, 5] (.seq (.reg [⟨(some 43), .move (.tmp 3), none⟩,
    ⟨(some 44), .move (.tmp 4), none⟩,
    ⟨(some 45), .load 27 (.tmp 5), none⟩,
    ⟨(some 46), .call ⟨.value (.func 10), #[(.tmp 43), (.tmp 44), (.tmp 45)], #[24, 25, 27]⟩, none⟩,
    ⟨(some 42), .move (.tmp 46), none⟩,
    ⟨(some 47), .extract (.tmp 42) 0, none⟩,
    ⟨(some 48), .extract (.tmp 42) 1, none⟩,
    ⟨(some 6), .assign (.tmp 47), none⟩,
    ⟨(some 7), .assign (.tmp 48), none⟩] [0, 3, 4, 5, 6, 7])
  laws_FnCovers_t4))
/-- slots: [0] -/
def laws_FnCovers_t2 : ACode := (.cut [0] (.seq (.reg [⟨(some 37), .move (.tmp 0), none⟩,
    ⟨(some 38), .call ⟨.value (.func 9), #[(.tmp 37)], #[22]⟩, none⟩,
    ⟨(some 36), .move (.tmp 38), none⟩,
    ⟨(some 39), .extract (.tmp 36) 0, none⟩,
    ⟨(some 40), .extract (.tmp 36) 1, none⟩,
    ⟨(some 41), .extract (.tmp 36) 2, none⟩,
    ⟨(some 5), .alloc 27, none⟩,
    ⟨(some 3), .assign (.tmp 39), none⟩,
    ⟨(some 4), .assign (.tmp 40), none⟩,
    ⟨none, .store 27 (.tmp 5) (.tmp 41), none⟩] [0, 3, 4, 5])
  laws_FnCovers_t3))
/-- slots: [0] -/
def laws_FnCovers_t1 : ACode := (.cut [0] (.seq (.seq (.reg [⟨(some 34), .move (.tmp 0), none⟩,
    ⟨(some 35), .call ⟨.value (.func 8), #[(.tmp 34)], #[22]⟩, none⟩] [0, 35])
  (.cond (.tmp 35) (.seq (.reg [⟨(some 2), .assign (.const (.bool true)), none⟩] [2])
  .ret)
  .skip))
  laws_FnCovers_t2))
/-- loop.example/g01062/laws.FnCovers: number 3, params [0] -/
def laws_FnCovers_c : ACode := (.seq (.reg [⟨(some 2), .assign (.const (.bool false)), none⟩] [0])
  laws_FnCovers_t1)
theorem laws_FnCovers_k : fnOk Try.prog (fun i => i == 33) 3 = some (laws_FnCovers_c.strip, 215, [.tmp 2]) := by kernel_rfl
/-- loop.example/g01062/spec.DrawFaultOf: number 9, params [0] -/
def spec_DrawFaultOf_c : ACode := (.seq (.reg [⟨(some 2), .assign (.const (.slice none 0 0)), none⟩,
    ⟨(some 3), .assign (.const (.slice none 0 0)), none⟩,
    ⟨(some 4), .alloc 27, none⟩] [0, 4])
  (.seq (.reg [⟨(some 6), .move (.tmp 0), none⟩,
    ⟨(some 7), .build 88 #[(0, (.tmp 6))], none⟩,
    ⟨(some 8), .box 88 (.tmp 7), none⟩,
    ⟨(some 5), .assign (.tmp 8), none⟩] [4, 5])
  (.seq (.reg [⟨(some 9), .move (.tmp 5), none⟩,
    ⟨(some 10), .call ⟨.value (.func 67), #[(.tmp 9)], #[85]⟩, none⟩,
    ⟨(some 11), .move (.tmp 5), none⟩,
    ⟨(some 12), .call ⟨.value (.func 68), #[(.tmp 11)], #[85]⟩, none⟩,
    ⟨(some 13), .move (.tmp 5), none⟩,
    ⟨(some 14), .call ⟨.value (.func 69), #[(.tmp 13), (.const (.int .i64 7))], #[85, 3]⟩, none⟩,
    ⟨(some 2), .assign (.tmp 10), none⟩,
    ⟨(some 3), .assign (.tmp 12), none⟩,
    ⟨none, .store 27 (.tmp 4) (.tmp 14), none⟩] [2, 3, 4])
  .ret)))
theorem spec_DrawFaultOf_k : fnOk Try.prog (fun _ => false) 9 = some (spec_DrawFaultOf_c.strip, 15, [.tmp 2, .tmp 3, .cell 4 27]) := by kernel_rfl
/-- loop.example/g01062/spec.DrawIsCover: number 20, params [0] -/
def spec_DrawIsCover_c : ACode := (.seq (.reg [⟨(some 2), .alloc 27, none⟩] [0, 2])
  (.seq (.reg [⟨(some 4), .move (.tmp 0), none⟩,
    ⟨(some 5), .build 88 #[(0, (.tmp 4))], none⟩,
    ⟨(some 6), .box 88 (.tmp 5), none⟩,
    ⟨(some 3), .assign (.tmp 6), none⟩] [2, 3])
  (.seq (.reg [⟨(some 7), .move (.tmp 3), none⟩,
    ⟨(some 8), .move (.tmp 3), none⟩,
    ⟨(some 9), .buildSlice 33 5 #[(0, (.const (.int .i64 1))), (1, (.const (.int .i64 50))), (2, (.const (.int .i64 999))), (3, (.const (.int .i64 0))), (4, (.const (.int .i64 1000)))], none⟩,
    ⟨(some 10), .call ⟨.value (.func 88), #[(.tmp 8), (.tmp 9)], #[85, 33]⟩, none⟩,
    ⟨(some 11), .call ⟨.value (.func 69), #[(.tmp 7), (.tmp 10)], #[85, 3]⟩, none⟩,
    ⟨none, .store 27 (.tmp 2) (.tmp 11), none⟩] [2])
  .ret)))
theorem spec_DrawIsCover_k : fnOk Try.prog (fun _ => false) 20 = some (spec_DrawIsCover_c.strip, 12, [.cell 2 27]) := by kernel_rfl
/-- loop.example/g01062/spec.DrawFaultText: number 23, params [0] -/
def spec_DrawFaultText_c : ACode := (.seq (.reg [⟨(some 2), .assign (.const (.int .i64 0)), none⟩] [0])
  (.seq (.reg [⟨(some 4), .move (.tmp 0), none⟩,
    ⟨(some 5), .build 88 #[(0, (.tmp 4))], none⟩,
    ⟨(some 6), .box 88 (.tmp 5), none⟩,
    ⟨(some 3), .assign (.tmp 6), none⟩] [3])
  (.seq (.reg [⟨(some 7), .move (.tmp 3), none⟩,
    ⟨(some 8), .call ⟨.value (.func 89), #[(.tmp 7), (.const (.int .i64 7))], #[85, 3]⟩, none⟩,
    ⟨(some 9), .move (.tmp 3), none⟩,
    ⟨(some 10), .call ⟨.value (.func 89), #[(.tmp 9), (.const (.int .i64 9))], #[85, 3]⟩, none⟩,
    ⟨(some 11), .binOp .quo 3 (.tmp 10) (.const (.int .i64 8)) 3, none⟩,
    ⟨(some 12), .binOp .sub 3 (.tmp 8) (.tmp 11) 3, none⟩,
    ⟨(some 2), .assign (.tmp 12), none⟩] [2])
  .ret)))
theorem spec_DrawFaultText_k : fnOk Try.prog (fun _ => false) 23 = some (spec_DrawFaultText_c.strip, 13, [.tmp 2]) := by kernel_rfl
/-- slots: [0, 3, 4, 5, 6, 43] -/
def __spec_l1Cur__rates_r0 : ACode := (.cut [0, 3, 4, 5, 6, 43] (.cond (.tmp 43) (.regF [⟨(some 47), .fieldAddr 122 (.tmp 6) 1, none⟩,
    ⟨(some 49), .fieldAddr 122 (.tmp 6) 3, none⟩]
    [51, 52, 45, 46, 48, 50, 54, 44, 56] [.load 3 (.tmp 47), .load 3 (.tmp 49)] [] []
    [⟨(some 51), .move (.tmp 0), none⟩,
    ⟨(some 52), .buildSlice 33 3 #[(0, (.const (.int .i64 1))), (1, (.const (.int .i64 1))), (2, (.const (.int .i64 3)))], none⟩,
    ⟨(some 53), .call ⟨.value (.func 88), #[(.tmp 51), (.tmp 52)], #[85, 33]⟩, none⟩,
    ⟨(some 45), .move (.tmp 0), none⟩,
    ⟨(some 46), .move (.tmp 4), none⟩,
    ⟨(some 48), .load 3 (.tmp 47), none⟩,
    ⟨(some 50), .load 3 (.tmp 49), none⟩,
    ⟨(some 54), .binOp .add 3 (.tmp 50) (.tmp 53) 3, none⟩,
    ⟨(some 55), .call ⟨.value (.func 121), #[(.tmp 45), (.tmp 46), (.tmp 48), (.tmp 54)], #[85, 3, 3, 3]⟩, none⟩,
    ⟨(some 44), .move (.tmp 3), none⟩,
    ⟨(some 56), .buildSlice 24 1 #[(0, (.tmp 55))], none⟩,
    ⟨(some 57), .call ⟨.builtin .append, #[(.tmp 44), (.tmp 56)], #[24, 24]⟩, none⟩,
    ⟨(some 3), .assign (.tmp 57), none⟩] [0, 3, 4, 5])
  .skip))
/-- slots: [0, 3, 4, 5] -/
def __spec_l1Cur__rates_r1 : ACode := (.cut [0, 3, 4, 5] (.seq (.reg [⟨(some 31), .move (.tmp 3), none⟩,
    ⟨(some 32), .move (.tmp 3), none⟩,
    ⟨(some 33), .call ⟨.builtin .len, #[(.tmp 32)], #[24]⟩, none⟩,
    ⟨(some 34), .binOp .sub 3 (.tmp 33) (.const (.int .i64 1)) 3, none⟩,
    ⟨(some 35), .indexAddr 24 (.tmp 31) (.tmp 34), none⟩,
    ⟨(some 36), .load 122 (.tmp 35), none⟩,
    ⟨(some 6), .alloc 122, none⟩,
    ⟨none, .store 122 (.tmp 6) (.tmp 36), none⟩] [0, 3, 4, 5, 6])
  (.seq (.reg [⟨(some 37), .move (.tmp 0), none⟩,
    ⟨(some 38), .call ⟨.value (.func 120), #[(.tmp 37), (.const (.int .i64 2))], #[85, 3]⟩, none⟩,
    ⟨(some 39), .move (.tmp 38), none⟩,
    ⟨(some 40), .fieldAddr 122 (.tmp 6) 3, (some (some 39, true))⟩,
    ⟨(some 41), .load 3 (.tmp 40), (some (some 39, true))⟩,
    ⟨(some 42), .binOp .lss 3 (.tmp 41) (.const (.int .i64 30)) 3, (some (some 39, true))⟩,
    ⟨(some 43), .pick (.tmp 39) (.tmp 42) (.const (.bool false)), none⟩] [0, 3, 4, 5, 6, 43])
  __spec_l1Cur__rates_r0)))
/-- slots: [0, 3, 4, 5, 17] -/
def __spec_l1Cur__rates_r2 : ACode := (.cut [0, 3, 4, 5, 17] (.cond (.tmp 17) (.seq (.regF [⟨(some 22), .move (.tmp 5), none⟩]
    [25, 26, 19, 20, 21, 23, 24, 18, 29] [] [] []
    [⟨(some 25), .move (.tmp 0), none⟩,
    ⟨(some 26), .buildSlice 33 3 #[(0, (.const (.int .i64 0))), (1, (.const (.int .i64 0))), (2, (.const (.int .i64 5)))], none⟩,
    ⟨(some 27), .call ⟨.value (.func 88), #[(.tmp 25), (.tmp 26)], #[85, 33]⟩, none⟩,
    ⟨(some 19), .move (.tmp 0), none⟩,
    ⟨(some 20), .move (.tmp 4), none⟩,
    ⟨(some 21), .buildSlice 33 3 #[(0, (.const (.int .i64 20))), (1, (.const (.int .i64 50))), (2, (.const (.int .i64 100)))], none⟩,
    ⟨(some 23), .indexAddr 33 (.tmp 21) (.tmp 22), none⟩,
    ⟨(some 24), .load 3 (.tmp 23), none⟩,
    ⟨(some 28), .call ⟨.value (.func 121), #[(.tmp 19), (.tmp 20), (.tmp 24), (.tmp 27)], #[85, 3, 3, 3]⟩, none⟩,
    ⟨(some 18), .move (.tmp 3), none⟩,
    ⟨(some 29), .buildSlice 24 1 #[(0, (.tmp 28))], none⟩,
    ⟨(some 30), .call ⟨.builtin .append, #[(.tmp 18), (.tmp 29)], #[24, 24]⟩, none⟩,
    ⟨(some 3), .assign (.tmp 30), none⟩] [0, 3, 4, 5])
  __spec_l1Cur__rates_r1)
  .skip))
/-- slots: [0, 3, 4, 5] -/
def __spec_l1Cur__rates_r3 : ACode := (.cut [0, 3, 4, 5] (.reg [⟨(some 14), .move (.tmp 5), none⟩,
    ⟨(some 15), .binOp .add 3 (.tmp 14) (.const (.int .i64 1)) 3, none⟩,
    ⟨(some 5), .assign (.tmp 15), none⟩] [0, 3, 4, 5]))
/-- head: [0, 3, 4, 5] -/
def __spec_l1Cur__rates_l0 : ACode := (.seq (.seq (.reg [⟨(some 12), .move (.tmp 5), none⟩,
    ⟨(some 13), .binOp .lss 3 (.tmp 12) (.const (.int .i64 3)) 3, none⟩] [0, 3, 4, 5, 13])
  (.cond (.tmp 13) .skip
  (.exit 2)))
  (.seq (.block 3 (.seq (.reg [⟨(some 16), .move (.tmp 0), none⟩,
    ⟨(some 17), .call ⟨.value (.func 120), #[(.tmp 16), (.const (.int .i64 2))], #[85, 3]⟩, none⟩] [0, 3, 4, 5, 17])
  __spec_l1Cur__rates_r2))
  __spec_l1Cur__rates_r3))
/-- slots: [0, 3, 4] -/
def __spec_l1Cur__rates_r5 : ACode := (.cut [0, 3, 4] (.reg [⟨(some 10), .move (.tmp 4), none⟩,
    ⟨(some 11), .binOp .add 3 (.tmp 10) (.const (.int .i64 1)) 3, none⟩,
    ⟨(some 4), .assign (.tmp 11), none⟩] [0, 3, 4]))
/-- head: [0, 3, 4] -/
def __spec_l1Cur__rates_l1 : ACode := (.seq (.seq (.reg [⟨(some 8), .move (.tmp 4), none⟩,
    ⟨(some 9), .binOp .lss 3 (.tmp 8) (.const (.int .i64 3)) 3, none⟩] [0, 3, 4, 9])
  (.cond (.tmp 9) .skip
  (.exit 0)))
  (.seq (.block 1 (.seq (.reg [⟨(some 5), .assign (.const (.int .i64 0)), none⟩] [0, 3, 4, 5])
  (.block 2 (.loop __spec_l1Cur__rates_l0))))
  __spec_l1Cur__rates_r5))
/-- slots: [0, 3, 80] -/
def __spec_l1Cur__rates_r7 : ACode := (.cut [0, 3, 80] (.cond (.tmp 80) .skip
  (.exit 5)))
/-- slots: [0, 3] -/
def __spec_l1Cur__rates_r8 : ACode := (.cut [0, 3] (.block 6 (.reg [⟨(some 81), .move (.tmp 3), none⟩,
    ⟨(some 82), .move (.tmp 3), none⟩,
    ⟨(some 83), .call ⟨.builtin .len, #[(.tmp 82)], #[24]⟩, none⟩,
    ⟨(some 84), .binOp .add 3 (.const (.int .i64 10)) (.tmp 83) 3, none⟩,
    ⟨(some 85), .build 122 #[(0, (.const (.int .i64 8))), (1, (.tmp 84)), (3, (.const (.int .i64 7))), (4, (.const (.int .i64 4)))], none⟩,
    ⟨(some 86), .buildSlice 24 1 #[(0, (.tmp 85))], none⟩,
    ⟨(some 87), .call ⟨.builtin .append, #[(.tmp 81), (.tmp 86)], #[24, 24]⟩, none⟩,
    ⟨(some 3), .assign (.tmp 87), none⟩] [0, 3])))
/-- head: [0, 3] -/
def __spec_l1Cur__rates_l2 : ACode := (.seq (.seq (.reg [⟨(some 75), .move (.tmp 3), none⟩,
    ⟨(some 76), .call ⟨.builtin .len, #[(.tmp 75)], #[24]⟩, none⟩,
    ⟨(some 77), .move (.tmp 0), none⟩,
    ⟨(some 78), .call ⟨.value (.func 89), #[(.tmp 77), (.const (.int .i64 2))], #[85, 3]⟩, none⟩,
    ⟨(some 79), .binOp .add 3 (.const (.int .i64 16)) (.tmp 78) 3, none⟩,
    ⟨(some 80), .binOp .lss 3 (.tmp 76) (.tmp 79) 3, none⟩] [0, 3, 80])
  __spec_l1Cur__rates_r7)
  __spec_l1Cur__rates_r8)
/-- slots: [0, 3, 59] -/
def __spec_l1Cur__rates_r10 : ACode := (.cut [0, 3, 59] (.block 4 (.seq (.reg [⟨(some 61), .binOp .eql 3 (.tmp 59) (.const (.int .i64 0)) 3, none⟩,
    ⟨(some 60), .assign (.tmp 61), none⟩] [0, 3, 59, 60])
  (.cond (.tmp 60) (.reg [⟨(some 62), .move (.tmp 3), none⟩,
    ⟨(some 63), .move (.tmp 0), none⟩,
    ⟨(some 64), .move (.tmp 0), none⟩,
    ⟨(some 65), .buildSlice 33 4 #[(0, (.const (.int .i64 (-1)))), (1, (.const (.int .i64 2))), (2, (.const (.int .i64 9))), (3, (.const (.int .i64 10)))], none⟩,
    ⟨(some 66), .call ⟨.value (.func 88), #[(.tmp 64), (.tmp 65)], #[85, 33]⟩, none⟩,
    ⟨(some 67), .move (.tmp 0), none⟩,
    ⟨(some 68), .buildSlice 33 4 #[(0, (.const (.int .i64 0))), (1, (.const (.int .i64 100))), (2, (.const (.int .i64 2000))), (3, (.const (.int .i64 2001)))], none⟩,
    ⟨(some 69), .call ⟨.value (.func 88), #[(.tmp 67), (.tmp 68)], #[85, 33]⟩, none⟩,
    ⟨(some 70), .call ⟨.value (.func 121), #[(.tmp 63), (.tmp 66), (.tmp 69), (.const (.int .i64 3))], #[85, 3, 3, 3]⟩, none⟩,
    ⟨(some 71), .buildSlice 24 1 #[(0, (.tmp 70))], none⟩,
    ⟨(some 72), .call ⟨.builtin .append, #[(.tmp 62), (.tmp 71)], #[24, 24]⟩, none⟩,
    ⟨(some 3), .assign (.tmp 72), none⟩] [3])
  (.seq (.reg [⟨(some 74), .binOp .eql 3 (.tmp 59) (.const (.int .i64 1)) 3, none⟩,
    ⟨(some 73), .assign (.tmp 74), none⟩] [0, 3, 73])
  (.cond (.tmp 73) (.block 5 (.loop __spec_l1Cur__rates_l2))
  .skip))))))
/-- slots: [3] -/
def __spec_l1Cur__rates_r11 : ACode := (.cut [3] (.seq (.reg [⟨(some 88), .move (.tmp 3), none⟩,
    ⟨(some 2), .assign (.tmp 88), none⟩] [2])
  .ret))
/-- slots: [0, 3] -/
def __spec_l1Cur__rates_r12 : ACode := (.cut [0, 3] (.seq (.seq (.reg [⟨(some 58), .move (.tmp 0), none⟩,
    ⟨(some 59), .call ⟨.value (.func 89), #[(.tmp 58), (.const (.int .i64 32))], #[85, 3]⟩, none⟩] [0, 3, 59])
  __spec_l1Cur__rates_r10)
  __spec_l1Cur__rates_r11))
/-- (*loop.example/g01062/spec.l1Cur).rates: number 67, params [0] -/
def __spec_l1Cur__rates_c : ACode := (.seq (.reg [⟨(some 2), .assign (.const (.slice none 0 0)), none⟩] [0])
  (.seq (.reg [⟨(some 7), .buildSlice 24 0 #[], none⟩,
    ⟨(some 3), .assign (.tmp 7), none⟩] [0, 3])
  (.seq (.seq (.reg [⟨(some 4), .assign (.const (.int .i64 0)), none⟩] [0, 3, 4])
  (.block 0 (.loop __spec_l1Cur__rates_l1)))
  __spec_l1Cur__rates_r12)))
theorem __spec_l1Cur__rates_k : fnOk Try.prog (fun i => i == 9 || i == 12) 67 = some (__spec_l1Cur__rates_c.strip, 89, [.tmp 2]) := by kernel_rfl
/-- slots: [0, 3, 4, 5, 23] -/
def __spec_l1Cur__timetable_r0 : ACode := (.cut [0, 3, 4, 5, 23] (.cond (.tmp 23) (.exit 1)
  .skip))
/-- slots: [0, 3, 4, 5, 6, 38] -/
def __spec_l1Cur__timetable_r1 : ACode := (.cut [0, 3, 4, 5, 6, 38] (.cond (.tmp 38) .skip
  (.exit 2)))
/-- slots: [0, 3, 4, 5, 6] -/
def __spec_l1Cur__timetable_r2 : ACode := (.cut [0, 3, 4, 5, 6] (.block 3 (.reg [⟨(some 39), .move (.tmp 6), none⟩,
    ⟨(some 40), .binOp .sub 3 (.tmp 39) (.const (.int .i64 1)) 3, none⟩,
    ⟨(some 6), .assign (.tmp 40), none⟩] [0, 3, 4, 5, 6])))
/-- head: [0, 3, 4, 5, 6] -/
def __spec_l1Cur__timetable_l0 : ACode := (.seq (.seq (.regQ [⟨(some 26), .move (.tmp 6), none⟩,
    ⟨(some 27), .binOp .gtr 3 (.tmp 26) (.const (.int .i64 0)) 3, none⟩,
    ⟨(some 28), .move (.tmp 27), none⟩,
    ⟨(some 29), .move (.tmp 3), (some (some 28, true))⟩,
    ⟨(some 30), .move (.tmp 6), (some (some 28, true))⟩,
    ⟨(some 31), .binOp .sub 3 (.tmp 30) (.const (.int .i64 1)) 3, (some (some 28, true))⟩,
    ⟨(some 32), .indexAddr 25 (.tmp 29) (.tmp 31), (some (some 28, true))⟩,
    ⟨(some 33), .load 113 (.tmp 32), (some (some 28, true))⟩,
    ⟨(some 34), .call ⟨.value (.func 124), #[(.tmp 33)], #[113]⟩, (some (some 28, true))⟩,
    ⟨(some 35), .load 113 (.tmp 5), (some (some 28, true))⟩,
    ⟨(some 36), .call ⟨.value (.func 124), #[(.tmp 35)], #[113]⟩, (some (some 28, true))⟩,
    ⟨(some 37), .binOp .gtr 3 (.tmp 34) (.tmp 36) 3, (some (some 28, true))⟩,
    ⟨(some 38), .pick (.tmp 28) (.tmp 37) (.const (.bool false)), none⟩] [0, 3, 4, 5, 6, 38])
  __spec_l1Cur__timetable_r1)
  __spec_l1Cur__timetable_r2)
/-- slots: [0, 3, 4, 5, 6] -/
def __spec_l1Cur__timetable_r4 : ACode := (.cut [0, 3, 4, 5, 6] (.seq (.regQ [⟨(some 41), .move (.tmp 6), none⟩,
    ⟨(some 42), .binOp .eql 3 (.tmp 41) (.const (.int .i64 0)) 3, none⟩,
    ⟨(some 43), .move (.tmp 42), none⟩,
    ⟨(some 44), .move (.tmp 3), (some (some 43, false))⟩,
    ⟨(some 45), .move (.tmp 6), (some (some 43, false))⟩,
    ⟨(some 46), .binOp .sub 3 (.tmp 45) (.const (.int .i64 1)) 3, (some (some 43, false))⟩,
    ⟨(some 47), .indexAddr 25 (.tmp 44) (.tmp 46), (some (some 43, false))⟩,
    ⟨(some 48), .load 113 (.tmp 47), (some (some 43, false))⟩,
    ⟨(some 49), .load 113 (.tmp 5), (some (some 43, false))⟩,
    ⟨(some 50), .binOp .neq 113 (.tmp 48) (.tmp 49) 113, (some (some 43, false))⟩,
    ⟨(some 51), .pick (.tmp 43) (.const (.bool true)) (.tmp 50), none⟩] [0, 3, 4, 5, 6, 51])
  (.cond (.tmp 51) (.regF []
    [53, 54, 55, 52, 57, 58, 60, 61, 62] [.load 113 (.tmp 5)] [] []
    [⟨(some 53), .move (.tmp 3), none⟩,
    ⟨(some 54), .move (.tmp 6), none⟩,
    ⟨(some 55), .slice 25 (.tmp 53) none (some (.tmp 54)) none, none⟩,
    ⟨(some 52), .buildSlice 25 0 #[], none⟩,
    ⟨(some 56), .call ⟨.builtin .append, #[(.tmp 52), (.tmp 55)], #[25, 25]⟩, none⟩,
    ⟨(some 57), .load 113 (.tmp 5), none⟩,
    ⟨(some 58), .buildSlice 25 1 #[(0, (.tmp 57))], none⟩,
    ⟨(some 59), .call ⟨.builtin .append, #[(.tmp 56), (.tmp 58)], #[25, 25]⟩, none⟩,
    ⟨(some 60), .move (.tmp 3), none⟩,
    ⟨(some 61), .move (.tmp 6), none⟩,
    ⟨(some 62), .slice 25 (.tmp 60) (some (.tmp 61)) none none, none⟩,
    ⟨(some 63), .call ⟨.builtin .append, #[(.tmp 59), (.tmp 62)], #[25, 25]⟩, none⟩,
    ⟨(some 3), .assign (.tmp 63), none⟩] [0, 3, 4])
  .skip)))
/-- slots: [0, 3, 4, 5] -/
def __spec_l1Cur__timetable_r5 : ACode := (.cut [0, 3, 4, 5] (.seq (.reg [⟨(some 24), .move (.tmp 3), none⟩,
    ⟨(some 25), .call ⟨.builtin .len, #[(.tmp 24)], #[25]⟩, none⟩,
    ⟨(some 6), .assign (.tmp 25), none⟩] [0, 3, 4, 5, 6])
  (.seq (.block 2 (.loop __spec_l1Cur__timetable_l0))
  __spec_l1Cur__timetable_r4)))
/-- slots: [0, 3, 4, 5] -/
def __spec_l1Cur__timetable_r6 : ACode := (.cut [0, 3, 4, 5] (.seq (.seq (.reg [⟨(some 16), .load 113 (.tmp 5), none⟩,
    ⟨(some 17), .call ⟨.value (.func 123), #[(.tmp 16)], #[113]⟩, none⟩,
    ⟨(some 18), .unOp .not 4 (.tmp 17), none⟩,
    ⟨(some 19), .move (.tmp 18), none⟩,
    ⟨(some 20), .move (.tmp 0), (some (some 19, true))⟩,
    ⟨(some 21), .call ⟨.value (.func 120), #[(.tmp 20), (.const (.int .i64 30))], #[85, 3]⟩, (some (some 19, true))⟩,
    ⟨(some 22), .unOp .not 4 (.tmp 21), (some (some 19, true))⟩,
    ⟨(some 23), .pick (.tmp 19) (.tmp 22) (.const (.bool false)), none⟩] [0, 3, 4, 5, 23])
  __spec_l1Cur__timetable_r0)
  __spec_l1Cur__timetable_r5))
/-- slots: [0, 3, 4] -/
def __spec_l1Cur__timetable_r7 : ACode := (.cut [0, 3, 4] (.reg [⟨(some 12), .move (.tmp 4), none⟩,
    ⟨(some 13), .binOp .sub 3 (.tmp 12) (.const (.int .i64 1)) 3, none⟩,
    ⟨(some 4), .assign (.tmp 13), none⟩] [0, 3, 4]))
/-- head: [0, 3, 4] -/
def __spec_l1Cur__timetable_l1 : ACode := (.seq (.seq (.reg [⟨(some 10), .move (.tmp 4), none⟩,
    ⟨(some 11), .binOp .gtr 3 (.tmp 10) (.const (.int .i64 0)) 3, none⟩] [0, 3, 4, 11])
  (.cond (.tmp 11) .skip
  (.exit 0)))
  (.seq (.block 1 (.seq (.reg [⟨(some 14), .move (.tmp 0), none⟩,
    ⟨(some 15), .call ⟨.value (.func 122), #[(.tmp 14)], #[85]⟩, none⟩,
    ⟨(some 5), .alloc 113, none⟩,
    ⟨none, .store 113 (.tmp 5) (.tmp 15), none⟩] [0, 3, 4, 5])
  __spec_l1Cur__timetable_r6))
  __spec_l1Cur__timetable_r7))
/-- slots: [0, 3, 4] -/
def __spec_l1Cur__timetable_r9 : ACode := (.cut [0, 3, 4] (.block 0 (.loop __spec_l1Cur__timetable_l1)))
/-- slots: [0, 3, 80] -/
def __spec_l1Cur__timetable_r10 : ACode := (.cut [0, 3, 80] (.cond (.tmp 80) .skip
  (.exit 5)))
/-- slots: [0, 3] -/
def __spec_l1Cur__timetable_r11 : ACode := (.cut [0, 3] (.block 6 (.reg [⟨(some 81), .move (.tmp 3), none⟩,
    ⟨(some 82), .move (.tmp 3), none⟩,
    ⟨(some 83), .call ⟨.builtin .len, #[(.tmp 82)], #[25]⟩, none⟩,
    ⟨(some 84), .binOp .add 3 (.const (.int .i64 100)) (.tmp 83) 3, none⟩,
    ⟨(some 85), .move (.tmp 3), none⟩,
    ⟨(some 86), .call ⟨.builtin .len, #[(.tmp 85)], #[25]⟩, none⟩,
    ⟨(some 87), .binOp .rem 3 (.tmp 86) (.const (.int .i64 3)) 3, none⟩,
    ⟨(some 88), .build 113 #[(0, (.tmp 84)), (1, (.tmp 87)), (2, (.const (.int .i64 3))), (3, (.const (.int .i64 200)))], none⟩,
    ⟨(some 89), .buildSlice 25 1 #[(0, (.tmp 88))], none⟩,
    ⟨(some 90), .call ⟨.builtin .append, #[(.tmp 81), (.tmp 89)], #[25, 25]⟩, none⟩,
    ⟨(some 3), .assign (.tmp 90), none⟩] [0, 3])))
/-- head: [0, 3] -/
def __spec_l1Cur__timetable_l2 : ACode := (.seq (.seq (.reg [⟨(some 75), .move (.tmp 3), none⟩,
    ⟨(some 76), .call ⟨.builtin .len, #[(.tmp 75)], #[25]⟩, none⟩,
    ⟨(some 77), .move (.tmp 0), none⟩,
    ⟨(some 78), .call ⟨.value (.func 89), #[(.tmp 77), (.const (.int .i64 2))], #[85, 3]⟩, none⟩,
    ⟨(some 79), .binOp .add 3 (.const (.int .i64 20)) (.tmp 78) 3, none⟩,
    ⟨(some 80), .binOp .lss 3 (.tmp 76) (.tmp 79) 3, none⟩] [0, 3, 80])
  __spec_l1Cur__timetable_r10)
  __spec_l1Cur__timetable_r11)
/-- slots: [0, 3, 65] -/
def __spec_l1Cur__timetable_r13 : ACode := (.cut [0, 3, 65] (.block 4 (.seq (.reg [⟨(some 67), .binOp .eql 3 (.tmp 65) (.const (.int .i64 0)) 3, none⟩,
    ⟨(some 66), .assign (.tmp 67), none⟩] [0, 3, 65, 66])
  (.cond (.tmp 66) (.reg [⟨(some 68), .move (.tmp 3), none⟩,
    ⟨(some 69), .move (.tmp 0), none⟩,
    ⟨(some 70), .call ⟨.value (.func 122), #[(.tmp 69)], #[85]⟩, none⟩,
    ⟨(some 71), .buildSlice 25 1 #[(0, (.tmp 70))], none⟩,
    ⟨(some 72), .call ⟨.builtin .append, #[(.tmp 68), (.tmp 71)], #[25, 25]⟩, none⟩,
    ⟨(some 3), .assign (.tmp 72), none⟩] [3])
  (.seq (.reg [⟨(some 74), .binOp .eql 3 (.tmp 65) (.const (.int .i64 1)) 3, none⟩,
    ⟨(some 73), .assign (.tmp 74), none⟩] [0, 3, 73])
  (.cond (.tmp 73) (.block 5 (.loop __spec_l1Cur__timetable_l2))
  .skip))))))
/-- slots: [3] -/
def __spec_l1Cur__timetable_r14 : ACode := (.cut [3] (.seq (.reg [⟨(some 91), .move (.tmp 3), none⟩,
    ⟨(some 2), .assign (.tmp 91), none⟩] [2])
  .ret))
/-- slots: [0, 3] -/
def __spec_l1Cur__timetable_r15 : ACode := (.cut [0, 3] (.seq (.seq (.reg [⟨(some 64), .move (.tmp 0), none⟩,
    ⟨(some 65), .call ⟨.value (.func 89), #[(.tmp 64), (.const (.int .i64 32))], #[85, 3]⟩, none⟩] [0, 3, 65])
  __spec_l1Cur__timetable_r13)
  __spec_l1Cur__timetable_r14))
/-- (*loop.example/g01062/spec.l1Cur).timetable: number 68, params [0] -/
def __spec_l1Cur__timetable_c : ACode := (.seq (.reg [⟨(some 2), .assign (.const (.slice none 0 0)), none⟩] [0])
  (.seq (.reg [⟨(some 7), .buildSlice 25 0 #[], none⟩,
    ⟨(some 3), .assign (.tmp 7), none⟩] [0, 3])
  (.seq (.seq (.reg [⟨(some 8), .move (.tmp 0), none⟩,
    ⟨(some 9), .call ⟨.value (.func 89), #[(.tmp 8), (.const (.int .i64 10))], #[85, 3]⟩, none⟩,
    ⟨(some 4), .assign (.tmp 9), none⟩] [0, 3, 4])
  __spec_l1Cur__timetable_r9)
  __spec_l1Cur__timetable_r15)))
theorem __spec_l1Cur__timetable_k : fnOk Try.prog (fun _ => false) 68 = some (__spec_l1Cur__timetable_c.strip, 92, [.tmp 2]) := by kernel_rfl
/-- slots: [0, 4, 6, 42] -/
def __spec_l1Cur__cover_r0 : ACode := (.cut [0, 4, 6, 42] (.cond (.tmp 42) (.reg [⟨(some 43), .fieldAddr 27 (.tmp 6) 5, none⟩,
    ⟨(some 44), .load 3 (.tmp 43), none⟩,
    ⟨(some 45), .binOp .add 3 (.tmp 44) (.const (.int .i64 1)) 3, none⟩,
    ⟨(some 46), .binOp .rem 3 (.tmp 45) (.const (.int .i64 4)) 3, none⟩,
    ⟨(some 47), .fieldAddr 27 (.tmp 6) 6, none⟩,
    ⟨none, .store 3 (.tmp 47) (.tmp 46), none⟩] [0, 4, 6])
  .skip))
/-- slots: [0, 4, 6, 49] -/
def __spec_l1Cur__cover_r1 : ACode := (.cut [0, 4, 6, 49] (.block 0 (.seq (.reg [⟨(some 51), .binOp .eql 3 (.tmp 49) (.const (.int .i64 0)) 3, none⟩,
    ⟨(some 50), .assign (.tmp 51), none⟩] [0, 4, 6, 49, 50])
  (.cond (.tmp 50) (.reg [⟨(some 52), .move (.tmp 0), none⟩,
    ⟨(some 53), .buildSlice 33 2 #[(0, (.const (.int .i64 0))), (1, (.const (.int .i64 10000)))], none⟩,
    ⟨(some 54), .call ⟨.value (.func 88), #[(.tmp 52), (.tmp 53)], #[85, 33]⟩, none⟩,
    ⟨(some 55), .fieldAddr 27 (.tmp 6) 4, none⟩,
    ⟨none, .store 3 (.tmp 55) (.tmp 54), none⟩] [4, 6])
  (.seq (.reg [⟨(some 57), .binOp .eql 3 (.tmp 49) (.const (.int .i64 1)) 3, none⟩,
    ⟨(some 56), .assign (.tmp 57), none⟩] [0, 4, 6, 56])
  (.cond (.tmp 56) (.reg [⟨(some 58), .move (.tmp 0), none⟩,
    ⟨(some 59), .buildSlice 33 3 #[(0, (.const (.int .i64 (-1)))), (1, (.const (.int .i64 9999))), (2, (.const (.int .i64 10000)))], none⟩,
    ⟨(some 60), .call ⟨.value (.func 88), #[(.tmp 58), (.tmp 59)], #[85, 33]⟩, none⟩,
    ⟨(some 61), .fieldAddr 27 (.tmp 6) 8, none⟩,
    ⟨none, .store 3 (.tmp 61) (.tmp 60), none⟩] [4, 6])
  .skip))))))
/-- slots: [4, 6] -/
def __spec_l1Cur__cover_r2 : ACode := (.cut [4, 6] (.seq (.reg [⟨(some 62), .load 27 (.tmp 6), none⟩,
    ⟨none, .store 27 (.tmp 4) (.tmp 62), none⟩] [4])
  .ret))
/-- slots: [0, 4, 6] -/
def __spec_l1Cur__cover_r3 : ACode := (.cut [0, 4, 6] (.seq (.seq (.reg [⟨(some 48), .move (.tmp 0), none⟩,
    ⟨(some 49), .call ⟨.value (.func 89), #[(.tmp 48), (.const (.int .i64 64))], #[85, 3]⟩, none⟩] [0, 4, 6, 49])
  __spec_l1Cur__cover_r1)
  __spec_l1Cur__cover_r2))
/-- slots: [0, 4, 6] -/
def __spec_l1Cur__cover_r4 : ACode := (.cut [0, 4, 6] (.seq (.seq (.reg [⟨(some 33), .fieldAddr 27 (.tmp 6) 5, none⟩,
    ⟨(some 34), .load 3 (.tmp 33), none⟩,
    ⟨(some 35), .fieldAddr 27 (.tmp 6) 6, none⟩,
    ⟨(some 36), .load 3 (.tmp 35), none⟩,
    ⟨(some 37), .binOp .eql 3 (.tmp 34) (.tmp 36) 3, none⟩,
    ⟨(some 38), .move (.tmp 37), none⟩,
    ⟨(some 39), .move (.tmp 0), (some (some 38, true))⟩,
    ⟨(some 40), .call ⟨.value (.func 120), #[(.tmp 39), (.const (.int .i64 16))], #[85, 3]⟩, (some (some 38, true))⟩,
    ⟨(some 41), .unOp .not 4 (.tmp 40), (some (some 38, true))⟩,
    ⟨(some 42), .pick (.tmp 38) (.tmp 41) (.const (.bool false)), none⟩] [0, 4, 6, 42])
  __spec_l1Cur__cover_r0)
  __spec_l1Cur__cover_r3))
/-- slots: [0, 1, 4, 5] -/
def __spec_l1Cur__cover_r5 : ACode := (.cut [0, 1, 4, 5] (.seq (.reg [⟨(some 10), .move (.tmp 1), none⟩,
    ⟨(some 11), .move (.tmp 0), none⟩,
    ⟨(some 12), .buildSlice 33 6 #[(0, (.const (.int .i64 0))), (1, (.const (.int .i64 4))), (2, (.const (.int .i64 5))), (3, (.const (.int .i64 9))), (4, (.const (.int .i64 10))), (5, (.const (.int .i64 14)))], none⟩,
    ⟨(some 13), .call ⟨.value (.func 88), #[(.tmp 11), (.tmp 12)], #[85, 33]⟩, none⟩,
    ⟨(some 14), .move (.tmp 0), none⟩,
    ⟨(some 15), .call ⟨.value (.func 89), #[(.tmp 14), (.const (.int .i64 3))], #[85, 3]⟩, none⟩,
    ⟨(some 16), .move (.tmp 0), none⟩,
    ⟨(some 17), .buildSlice 33 6 #[(0, (.const (.int .i64 1))), (1, (.const (.int .i64 20))), (2, (.const (.int .i64 21))), (3, (.const (.int .i64 50))), (4, (.const (.int .i64 100))), (5, (.const (.int .i64 101)))], none⟩,
    ⟨(some 18), .call ⟨.value (.func 88), #[(.tmp 16), (.tmp 17)], #[85, 33]⟩, none⟩,
    ⟨(some 19), .move (.tmp 0), none⟩,
    ⟨(some 20), .buildSlice 33 8 #[(0, (.const (.int .i64 3))), (1, (.const (.int .i64 4))), (2, (.const (.int .i64 5))), (3, (.const (.int .i64 5))), (4, (.const (.int .i64 10))), (5, (.const (.int .i64 12))), (6, (.const (.int .i64 25))), (7, (.const (.int .i64 60)))], none⟩,
    ⟨(some 21), .call ⟨.value (.func 88), #[(.tmp 19), (.tmp 20)], #[85, 33]⟩, none⟩,
    ⟨(some 22), .move (.tmp 0), none⟩,
    ⟨(some 23), .call ⟨.value (.func 89), #[(.tmp 22), (.const (.int .i64 4))], #[85, 3]⟩, none⟩,
    ⟨(some 24), .move (.tmp 0), none⟩,
    ⟨(some 25), .call ⟨.value (.func 89), #[(.tmp 24), (.const (.int .i64 4))], #[85, 3]⟩, none⟩,
    ⟨(some 26), .move (.tmp 5), none⟩,
    ⟨(some 27), .move (.tmp 5), none⟩,
    ⟨(some 28), .move (.tmp 0), none⟩,
    ⟨(some 29), .buildSlice 33 6 #[(0, (.const (.int .i64 0))), (1, (.const (.int .i64 10))), (2, (.const (.int .i64 30))), (3, (.const (.int .i64 60))), (4, (.const (.int .i64 90))), (5, (.const (.int .i64 900)))], none⟩,
    ⟨(some 30), .call ⟨.value (.func 88), #[(.tmp 28), (.tmp 29)], #[85, 33]⟩, none⟩,
    ⟨(some 31), .binOp .add 3 (.tmp 27) (.tmp 30) 3, none⟩,
    ⟨(some 32), .build 27 #[(0, (.tmp 10)), (1, (.tmp 13)), (2, (.tmp 15)), (3, (.tmp 18)), (4, (.tmp 21)), (5, (.tmp 23)), (6, (.tmp 25)), (7, (.tmp 26)), (8, (.tmp 31))], none⟩,
    ⟨(some 6), .alloc 27, none⟩,
    ⟨none, .store 27 (.tmp 6) (.tmp 32), none⟩] [0, 4, 6])
  __spec_l1Cur__cover_r4))
/-- (*loop.example/g01062/spec.l1Cur).cover: number 69, params [0, 1] -/
def __spec_l1Cur__cover_c : ACode := (.seq (.reg [⟨(some 4), .alloc 27, none⟩] [0, 1, 4])
  (.seq (.reg [⟨(some 7), .move (.tmp 0), none⟩,
    ⟨(some 8), .buildSlice 33 5 #[(0, (.const (.int .i64 0))), (1, (.const (.int .i64 0))), (2, (.const (.int .i64 5))), (3, (.const (.int .i64 10))), (4, (.const (.int .i64 11)))], none⟩,
    ⟨(some 9), .call ⟨.value (.func 88), #[(.tmp 7), (.tmp 8)], #[85, 33]⟩, none⟩,
    ⟨(some 5), .assign (.tmp 9), none⟩] [0, 1, 4, 5])
  __spec_l1Cur__cover_r5))
theorem __spec_l1Cur__cover_k : fnOk Try.prog (fun _ => false) 69 = some (__spec_l1Cur__cover_c.strip, 63, [.cell 4 27]) := by kernel_rfl
/-- (*loop.example/g01062/spec.l1Cur).among: number 88, params [0, 1] -/
def __spec_l1Cur__among_c : ACode := (.seq (.reg [⟨(some 4), .assign (.const (.int .i64 0)), none⟩] [0, 1])
  (.seq (.reg [⟨(some 5), .move (.tmp 1), none⟩,
    ⟨(some 6), .move (.tmp 0), none⟩,
    ⟨(some 7), .move (.tmp 1), none⟩,
    ⟨(some 8), .call ⟨.builtin .len, #[(.tmp 7)], #[33]⟩, none⟩,
    ⟨(some 9), .call ⟨.value (.func 89), #[(.tmp 6), (.tmp 8)], #[85, 3]⟩, none⟩,
    ⟨(some 10), .indexAddr 33 (.tmp 5) (.tmp 9), none⟩,
    ⟨(some 11), .load 3 (.tmp 10), none⟩,
    ⟨(some 4), .assign (.tmp 11), none⟩] [4])
  .ret))
theorem __spec_l1Cur__among_k : fnOk Try.prog (fun _ => false) 88 = some (__spec_l1Cur__among_c.strip, 12, [.tmp 4]) := by kernel_rfl
/-- (*loop.example/g01062/spec.l1Cur).pick: number 89, params [0, 1] -/
def __spec_l1Cur__pick_c : ACode := (.seq (.reg [⟨(some 4), .assign (.const (.int .i64 0)), none⟩] [0, 1])
  (.seq (.seq (.reg [⟨(some 6), .move (.tmp 1), none⟩,
    ⟨(some 7), .binOp .leq 3 (.tmp 6) (.const (.int .i64 1)) 3, none⟩] [0, 1, 7])
  (.cond (.tmp 7) (.seq (.reg [⟨(some 4), .assign (.const (.int .i64 0)), none⟩] [4])
  .ret)
  .skip))
  (.seq (.reg [⟨(some 8), .move (.tmp 0), none⟩,
    ⟨(some 9), .call ⟨.value (.func 144), #[(.tmp 8)], #[85]⟩, none⟩,
    ⟨(some 5), .assign (.tmp 9), none⟩] [0, 1, 5])
  (.seq (.seq (.reg [⟨(some 10), .move (.tmp 1), none⟩,
    ⟨(some 11), .binOp .gtr 3 (.tmp 10) (.const (.int .i64 200)) 3, none⟩] [0, 1, 5, 11])
  (.cond (.tmp 11) (.reg [⟨(some 12), .move (.tmp 5), none⟩,
    ⟨(some 13), .binOp .mul 3 (.tmp 12) (.const (.int .i64 256)) 3, none⟩,
    ⟨(some 14), .move (.tmp 0), none⟩,
    ⟨(some 15), .call ⟨.value (.func 144), #[(.tmp 14)], #[85]⟩, none⟩,
    ⟨(some 16), .binOp .add 3 (.tmp 13) (.tmp 15) 3, none⟩,
    ⟨(some 5), .assign (.tmp 16), none⟩] [1, 5])
  .skip))
  (.seq (.reg [⟨(some 17), .move (.tmp 5), none⟩,
    ⟨(some 18), .move (.tmp 1), none⟩,
    ⟨(some 19), .binOp .rem 3 (.tmp 17) (.tmp 18) 3, none⟩,
    ⟨(some 4), .assign (.tmp 19), none⟩] [4])
  .ret)))))
theorem __spec_l1Cur__pick_k : fnOk Try.prog (fun _ => false) 89 = some (__spec_l1Cur__pick_c.strip, 20, [.tmp 4]) := by kernel_rfl
/-- (*loop.example/g01062/spec.l1Cur).one: number 120, params [0, 1] -/
def __spec_l1Cur__one_c : ACode := (.seq (.reg [⟨(some 4), .assign (.const (.bool false)), none⟩] [0, 1])
  (.seq (.reg [⟨(some 5), .move (.tmp 0), none⟩,
    ⟨(some 6), .move (.tmp 1), none⟩,
    ⟨(some 7), .call ⟨.value (.func 89), #[(.tmp 5), (.tmp 6)], #[85, 3]⟩, none⟩,
    ⟨(some 8), .binOp .eql 3 (.tmp 7) (.const (.int .i64 0)) 3, none⟩,
    ⟨(some 4), .assign (.tmp 8), none⟩] [4])
  .ret))
theorem __spec_l1Cur__one_k : fnOk Try.prog (fun _ => false) 120 = some (__spec_l1Cur__one_c.strip, 9, [.tmp 4]) := by kernel_rfl
/-- (*loop.example/g01062/spec.l1Cur).rate: number 121, params [0, 1, 2, 3] -/
def __spec_l1Cur__rate_c : ACode := (.seq (.reg [⟨(some 8), .alloc 122, none⟩] [0, 1, 2, 3, 8])
  (.seq (.reg [⟨(some 10), .move (.tmp 1), none⟩,
    ⟨(some 11), .move (.tmp 2), none⟩,
    ⟨(some 12), .move (.tmp 3), none⟩,
    ⟨(some 13), .move (.tmp 3), none⟩,
    ⟨(some 14), .move (.tmp 0), none⟩,
    ⟨(some 15), .buildSlice 33 4 #[(0, (.const (.int .i64 5))), (1, (.const (.int .i64 9))), (2, (.const (.int .i64 9))), (3, (.const (.int .i64 19)))], none⟩,
    ⟨(some 16), .call ⟨.value (.func 88), #[(.tmp 14), (.tmp 15)], #[85, 33]⟩, none⟩,
    ⟨(some 17), .binOp .add 3 (.tmp 13) (.tmp 16) 3, none⟩,
    ⟨(some 18), .move (.tmp 0), none⟩,
    ⟨(some 19), .buildSlice 33 7 #[(0, (.const (.int .i64 3))), (1, (.const (.int .i64 5))), (2, (.const (.int .i64 5))), (3, (.const (.int .i64 10))), (4, (.const (.int .i64 12))), (5, (.const (.int .i64 25))), (6, (.const (.int .i64 9999)))], none⟩,
    ⟨(some 20), .call ⟨.value (.func 88), #[(.tmp 18), (.tmp 19)], #[85, 33]⟩, none⟩,
    ⟨(some 21), .build 122 #[(0, (.tmp 10)), (1, (.tmp 11)), (2, (.tmp 12)), (3, (.tmp 17)), (4, (.tmp 20))], none⟩,
    ⟨(some 9), .alloc 122, none⟩,
    ⟨none, .store 122 (.tmp 9) (.tmp 21), none⟩] [0, 8, 9])
  (.seq (.seq (.reg [⟨(some 22), .move (.tmp 0), none⟩,
    ⟨(some 23), .call ⟨.value (.func 89), #[(.tmp 22), (.const (.int .i64 64))], #[85, 3]⟩, none⟩] [0, 8, 9, 23])
  (.block 0 (.seq (.reg [⟨(some 25), .binOp .eql 3 (.tmp 23) (.const (.int .i64 0)) 3, none⟩,
    ⟨(some 24), .assign (.tmp 25), none⟩] [0, 8, 9, 23, 24])
  (.cond (.tmp 24) (.reg [⟨(some 26), .move (.tmp 0), none⟩,
    ⟨(some 27), .fieldAddr 122 (.tmp 9) 2, none⟩,
    ⟨(some 28), .load 3 (.tmp 27), none⟩,
    ⟨(some 29), .binOp .sub 3 (.tmp 28) (.const (.int .i64 1)) 3, none⟩,
    ⟨(some 30), .buildSlice 33 3 #[(0, (.tmp 29)), (1, (.const (.int .i64 4000))), (2, (.const (.int .i64 4001)))], none⟩,
    ⟨(some 31), .call ⟨.value (.func 88), #[(.tmp 26), (.tmp 30)], #[85, 33]⟩, none⟩,
    ⟨(some 32), .fieldAddr 122 (.tmp 9) 3, none⟩,
    ⟨none, .store 3 (.tmp 32) (.tmp 31), none⟩] [8, 9])
  (.seq (.reg [⟨(some 34), .binOp .eql 3 (.tmp 23) (.const (.int .i64 1)) 3, none⟩,
    ⟨(some 33), .assign (.tmp 34), none⟩] [0, 8, 9, 33])
  (.cond (.tmp 33) (.reg [⟨(some 35), .move (.tmp 0), none⟩,
    ⟨(some 36), .buildSlice 33 2 #[(0, (.const (.int .i64 0))), (1, (.const (.int .i64 10000)))], none⟩,
    ⟨(some 37), .call ⟨.value (.func 88), #[(.tmp 35), (.tmp 36)], #[85, 33]⟩, none⟩,
    ⟨(some 38), .fieldAddr 122 (.tmp 9) 4, none⟩,
    ⟨none, .store 3 (.tmp 38) (.tmp 37), none⟩] [8, 9])
  .skip))))))
  (.seq (.reg [⟨(some 39), .load 122 (.tmp 9), none⟩,
    ⟨none, .store 122 (.tmp 8) (.tmp 39), none⟩] [8])
  .ret))))
theorem __spec_l1Cur__rate_k : fnOk Try.prog (fun _ => false) 121 = some (__spec_l1Cur__rate_c.strip, 40, [.cell 8 122]) := by kernel_rfl
/-- slots: [0, 2, 4, 20] -/
def __spec_l1Cur__mail_r0 : ACode := (.cut [0, 2, 4, 20] (.block 0 (.seq (.reg [⟨(some 22), .binOp .eql 3 (.tmp 20) (.const (.int .i64 0)) 3, none⟩,
    ⟨(some 21), .assign (.tmp 22), none⟩] [0, 2, 4, 20, 21])
  (.cond (.tmp 21) (.reg [⟨(some 23), .move (.tmp 0), none⟩,
    ⟨(some 24), .buildSlice 33 3 #[(0, (.const (.int .i64 (-1)))), (1, (.const (.int .i64 9))), (2, (.const (.int .i64 10)))], none⟩,
    ⟨(some 25), .call ⟨.value (.func 88), #[(.tmp 23), (.tmp 24)], #[85, 33]⟩, none⟩,
    ⟨(some 26), .fieldAddr 113 (.tmp 4) 2, none⟩,
    ⟨none, .store 3 (.tmp 26) (.tmp 25), none⟩] [2, 4])
  (.seq (.reg [⟨(some 28), .binOp .eql 3 (.tmp 20) (.const (.int .i64 1)) 3, none⟩,
    ⟨(some 27), .assign (.tmp 28), none⟩] [0, 2, 4, 27])
  (.cond (.tmp 27) (.reg [⟨(some 29), .move (.tmp 0), none⟩,
    ⟨(some 30), .fieldAddr 113 (.tmp 4) 0, none⟩,
    ⟨(some 31), .load 3 (.tmp 30), none⟩,
    ⟨(some 32), .buildSlice 33 3 #[(0, (.tmp 31)), (1, (.const (.int .i64 9999))), (2, (.const (.int .i64 10000)))], none⟩,
    ⟨(some 33), .call ⟨.value (.func 88), #[(.tmp 29), (.tmp 32)], #[85, 33]⟩, none⟩,
    ⟨(some 34), .fieldAddr 113 (.tmp 4) 3, none⟩,
    ⟨none, .store 3 (.tmp 34) (.tmp 33), none⟩] [2, 4])
  .skip))))))
/-- slots: [2, 4] -/
def __spec_l1Cur__mail_r1 : ACode := (.cut [2, 4] (.seq (.reg [⟨(some 35), .load 113 (.tmp 4), none⟩,
    ⟨none, .store 113 (.tmp 2) (.tmp 35), none⟩] [2])
  .ret))
/-- slots: [0, 2, 4] -/
def __spec_l1Cur__mail_r2 : ACode := (.cut [0, 2, 4] (.seq (.seq (.reg [⟨(some 19), .move (.tmp 0), none⟩,
    ⟨(some 20), .call ⟨.value (.func 89), #[(.tmp 19), (.const (.int .i64 48))], #[85, 3]⟩, none⟩] [0, 2, 4, 20])
  __spec_l1Cur__mail_r0)
  __spec_l1Cur__mail_r1))
/-- slots: [0, 2, 3] -/
def __spec_l1Cur__mail_r3 : ACode := (.cut [0, 2, 3] (.seq (.reg [⟨(some 8), .move (.tmp 3), none⟩,
    ⟨(some 9), .move (.tmp 0), none⟩,
    ⟨(some 10), .call ⟨.value (.func 89), #[(.tmp 9), (.const (.int .i64 4))], #[85, 3]⟩, none⟩,
    ⟨(some 11), .move (.tmp 0), none⟩,
    ⟨(some 12), .call ⟨.value (.func 89), #[(.tmp 11), (.const (.int .i64 4))], #[85, 3]⟩, none⟩,
    ⟨(some 13), .move (.tmp 3), none⟩,
    ⟨(some 14), .move (.tmp 0), none⟩,
    ⟨(some 15), .buildSlice 33 5 #[(0, (.const (.int .i64 1))), (1, (.const (.int .i64 5))), (2, (.const (.int .i64 10))), (3, (.const (.int .i64 10))), (4, (.const (.int .i64 25)))], none⟩,
    ⟨(some 16), .call ⟨.value (.func 88), #[(.tmp 14), (.tmp 15)], #[85, 33]⟩, none⟩,
    ⟨(some 17), .binOp .add 3 (.tmp 13) (.tmp 16) 3, none⟩,
    ⟨(some 18), .build 113 #[(0, (.tmp 8)), (1, (.tmp 10)), (2, (.tmp 12)), (3, (.tmp 17))], none⟩,
    ⟨(some 4), .alloc 113, none⟩,
    ⟨none, .store 113 (.tmp 4) (.tmp 18), none⟩] [0, 2, 4])
  __spec_l1Cur__mail_r2))
/-- (*loop.example/g01062/spec.l1Cur).mail: number 122, params [0] -/
def __spec_l1Cur__mail_c : ACode := (.seq (.reg [⟨(some 2), .alloc 113, none⟩] [0, 2])
  (.seq (.reg [⟨(some 5), .move (.tmp 0), none⟩,
    ⟨(some 6), .buildSlice 33 8 #[(0, (.const (.int .i64 0))), (1, (.const (.int .i64 5))), (2, (.const (.int .i64 10))), (3, (.const (.int .i64 10))), (4, (.const (.int .i64 20))), (5, (.const (.int .i64 30))), (6, (.const (.int .i64 45))), (7, (.const (.int .i64 60)))], none⟩,
    ⟨(some 7), .call ⟨.value (.func 88), #[(.tmp 5), (.tmp 6)], #[85, 33]⟩, none⟩,
    ⟨(some 3), .assign (.tmp 7), none⟩] [0, 2, 3])
  __spec_l1Cur__mail_r3))
theorem __spec_l1Cur__mail_k : fnOk Try.prog (fun _ => false) 122 = some (__spec_l1Cur__mail_c.strip, 36, [.cell 2 113]) := by kernel_rfl
/-- (*loop.example/g01062/spec.l1Cur).next: number 144, params [0] -/
def __spec_l1Cur__next_c : ACode := (.seq (.reg [⟨(some 2), .assign (.const (.int .i64 0)), none⟩] [0])
  (.seq (.reg [⟨(some 3), .assign (.const (.int .i64 0)), none⟩] [0, 3])
  (.seq (.seq (.regQ [⟨(some 4), .move (.tmp 0), none⟩,
    ⟨(some 5), .nilCheck (.tmp 4), none⟩,
    ⟨(some 6), .fieldAddr 88 (.tmp 5) 1, none⟩,
    ⟨(some 7), .load 3 (.tmp 6), none⟩,
    ⟨(some 8), .move (.tmp 0), none⟩,
    ⟨(some 9), .nilCheck (.tmp 8), none⟩,
    ⟨(some 10), .fieldAddr 88 (.tmp 9) 0, none⟩,
    ⟨(some 11), .load 22 (.tmp 10), none⟩,
    ⟨(some 12), .call ⟨.builtin .len, #[(.tmp 11)], #[22]⟩, none⟩,
    ⟨(some 13), .binOp .lss 3 (.tmp 7) (.tmp 12) 3, none⟩] [0, 3, 13])
  (.cond (.tmp 13) (.regQ [⟨(some 14), .move (.tmp 0), none⟩,
    ⟨(some 15), .nilCheck (.tmp 14), none⟩,
    ⟨(some 16), .fieldAddr 88 (.tmp 15) 0, none⟩,
    ⟨(some 17), .load 22 (.tmp 16), none⟩,
    ⟨(some 18), .move (.tmp 0), none⟩,
    ⟨(some 19), .nilCheck (.tmp 18), none⟩,
    ⟨(some 20), .fieldAddr 88 (.tmp 19) 1, none⟩,
    ⟨(some 21), .load 3 (.tmp 20), none⟩,
    ⟨(some 22), .indexAddr 22 (.tmp 17) (.tmp 21), none⟩,
    ⟨(some 23), .load 5 (.tmp 22), none⟩,
    ⟨(some 24), .convert 5 3 (.tmp 23), none⟩,
    ⟨(some 3), .assign (.tmp 24), none⟩] [0, 3])
  .skip))
  (.seq (.reg [⟨(some 25), .move (.tmp 0), none⟩,
    ⟨(some 26), .nilCheck (.tmp 25), none⟩,
    ⟨(some 27), .fieldAddr 88 (.tmp 26) 1, none⟩,
    ⟨(some 28), .load 3 (.tmp 27), none⟩,
    ⟨(some 29), .binOp .add 3 (.tmp 28) (.const (.int .i64 1)) 3, none⟩,
    ⟨(some 30), .nilCheck (.tmp 25), none⟩,
    ⟨(some 31), .fieldAddr 88 (.tmp 30) 1, none⟩,
    ⟨none, .store 3 (.tmp 31) (.tmp 29), none⟩] [0, 3])
  (.seq (.reg [⟨(some 32), .move (.tmp 0), none⟩,
    ⟨(some 33), .move (.tmp 0), none⟩,
    ⟨(some 34), .nilCheck (.tmp 33), none⟩,
    ⟨(some 35), .fieldAddr 88 (.tmp 34) 2, none⟩,
    ⟨(some 36), .load 86 (.tmp 35), none⟩,
    ⟨(some 37), .binOp .mul 86 (.tmp 36) (.const (.int .u64 6364136223846793005)) 86, none⟩,
    ⟨(some 38), .move (.tmp 3), none⟩,
    ⟨(some 39), .convert 3 86 (.tmp 38), none⟩,
    ⟨(some 40), .binOp .add 86 (.tmp 37) (.tmp 39) 86, none⟩,
    ⟨(some 41), .binOp .add 86 (.tmp 40) (.const (.int .u64 381907)) 86, none⟩,
    ⟨(some 42), .nilCheck (.tmp 32), none⟩,
    ⟨(some 43), .fieldAddr 88 (.tmp 42) 2, none⟩,
    ⟨none, .store 86 (.tmp 43) (.tmp 41), none⟩] [0, 3])
  (.seq (.seq (.regQ [⟨(some 44), .move (.tmp 0), none⟩,
    ⟨(some 45), .nilCheck (.tmp 44), none⟩,
    ⟨(some 46), .fieldAddr 88 (.tmp 45) 1, none⟩,
    ⟨(some 47), .load 3 (.tmp 46), none⟩,
    ⟨(some 48), .move (.tmp 0), none⟩,
    ⟨(some 49), .nilCheck (.tmp 48), none⟩,
    ⟨(some 50), .fieldAddr 88 (.tmp 49) 0, none⟩,
    ⟨(some 51), .load 22 (.tmp 50), none⟩,
    ⟨(some 52), .call ⟨.builtin .len, #[(.tmp 51)], #[22]⟩, none⟩,
    ⟨(some 53), .binOp .leq 3 (.tmp 47) (.tmp 52) 3, none⟩] [0, 3, 53])
  (.cond (.tmp 53) (.seq (.reg [⟨(some 54), .move (.tmp 3), none⟩,
    ⟨(some 2), .assign (.tmp 54), none⟩] [2])
  .ret)
  .skip))
  (.seq (.reg [⟨(some 55), .move (.tmp 0), none⟩,
    ⟨(some 56), .nilCheck (.tmp 55), none⟩,
    ⟨(some 57), .fieldAddr 88 (.tmp 56) 2, none⟩,
    ⟨(some 58), .load 86 (.tmp 57), none⟩,
    ⟨(some 59), .binOp .shr 86 (.tmp 58) (.const (.int .u64 40)) 141, none⟩,
    ⟨(some 60), .binOp .and 86 (.tmp 59) (.const (.int .u64 255)) 86, none⟩,
    ⟨(some 61), .convert 86 3 (.tmp 60), none⟩,
    ⟨(some 2), .assign (.tmp 61), none⟩] [2])
  .ret)))))))
theorem __spec_l1Cur__next_k : fnOk Try.prog (fun _ => false) 144 = some (__spec_l1Cur__next_c.strip, 62, [.tmp 2]) := by kernel_rfl
end Go.Proofs.Ytjiffkjeijfilaa

