/- Printed by a program of ours: the functions' abstract code and facts on their types. -/
import Derived.Test.YtjiffkjeijfilaaCoE
set_option maxRecDepth 8000
namespace Go.Proofs.Ytjiffkjeijfilaa
open Go Go.RowKit
@[simp] theorem ty_88 : tyK Try.prog 88 = some (.obj 3) := by kernel_rfl
@[simp] theorem fld_88_0 : fldK Try.prog 88 0 = some 0 := by kernel_rfl
@[simp] theorem fld_88_1 : fldK Try.prog 88 1 = some 1 := by kernel_rfl
@[simp] theorem fld_88_2 : fldK Try.prog 88 2 = some 2 := by kernel_rfl
@[simp] theorem pl_88 : plK Try.prog 88 = some (some [(0, 1), (1, 1), (2, 1)]) := by kernel_rfl
@[simp] theorem zero_88 : zeroK Try.prog 88 = some [.nils, .int .i64 0, .int .u64 0] := by kernel_rfl
/-- slots: [34, 35, 36, 37] -/
def laws_FnMade_t17 : ACode := (.cut [34, 35, 36, 37] (.seq (.reg [⟨(some 201), .move (.tmp 34), none⟩,
    ⟨(some 202), .move (.tmp 36), none⟩,
    ⟨(some 203), .binOp .eql 9 (.tmp 201) (.tmp 202) 9, none⟩,
    ⟨(some 204), .move (.tmp 203), none⟩,
    ⟨(some 205), .move (.tmp 35), (some (some 204, true))⟩,
    ⟨(some 206), .move (.tmp 37), (some (some 204, true))⟩,
    ⟨(some 207), .binOp .eql 4 (.tmp 205) (.tmp 206) 4, (some (some 204, true))⟩,
    ⟨(some 208), .pick (.tmp 204) (.tmp 207) (.const (.bool false)), none⟩,
    ⟨(some 2), .assign (.tmp 208), none⟩] [2])
  .ret))
/-- slots: [33, 34, 35] -/
def laws_FnMade_t16 : ACode := (.cut [33, 34, 35] (.seq (.reg [⟨(some 197), .move (.tmp 33), none⟩,
    ⟨(some 198), .call ⟨.value (.func 66), #[(.tmp 197)], #[3]⟩, none⟩,
    ⟨(some 196), .move (.tmp 198), none⟩,
    ⟨(some 199), .extract (.tmp 196) 0, none⟩,
    ⟨(some 200), .extract (.tmp 196) 1, none⟩,
    ⟨(some 36), .assign (.tmp 199), none⟩,
    ⟨(some 37), .assign (.tmp 200), none⟩] [34, 35, 36, 37])
  laws_FnMade_t17))
/-- slots: [33] -/
def laws_FnMade_t15 : ACode := (.cut [33] (.seq (.reg [⟨(some 192), .move (.tmp 33), none⟩,
    ⟨(some 193), .call ⟨.value (.func 65), #[(.tmp 192)], #[3]⟩, none⟩,
    ⟨(some 191), .move (.tmp 193), none⟩,
    ⟨(some 194), .extract (.tmp 191) 0, none⟩,
    ⟨(some 195), .extract (.tmp 191) 1, none⟩,
    ⟨(some 34), .assign (.tmp 194), none⟩,
    ⟨(some 35), .assign (.tmp 195), none⟩] [33, 34, 35])
  laws_FnMade_t16))
/-- slots: [0] -/
def laws_FnMade_t14 : ACode := (.cut [0] (.seq (.reg [⟨(some 189), .move (.tmp 0), none⟩,
    ⟨(some 190), .call ⟨.value (.func 64), #[(.tmp 189)], #[22]⟩, none⟩,
    ⟨(some 33), .assign (.tmp 190), none⟩] [33])
  laws_FnMade_t15))
/-- slots: [0, 22, 23, 25, 27] -/
def laws_FnMade_t13 : ACode := (.cut [0, 22, 23, 25, 27] (.seq (.seq (.reg [⟨(some 179), .move (.tmp 27), none⟩] [0, 22, 23, 25, 179])
  (.cond (.tmp 179) (.seq (.reg [⟨(some 181), .move (.tmp 22), none⟩,
    ⟨(some 182), .load 27 (.tmp 23), none⟩,
    ⟨(some 183), .move (.tmp 25), none⟩,
    ⟨(some 184), .call ⟨.value (.func 33), #[(.tmp 181), (.tmp 182), (.tmp 183)], #[24, 27, 3]⟩, none⟩,
    ⟨(some 180), .move (.tmp 184), none⟩,
    ⟨(some 185), .extract (.tmp 180) 0, none⟩,
    ⟨(some 186), .extract (.tmp 180) 1, none⟩,
    ⟨(some 31), .alloc 27, none⟩,
    ⟨none, .store 27 (.tmp 31) (.tmp 185), none⟩,
    ⟨(some 32), .assign (.tmp 186), none⟩] [0, 32])
  (.seq (.reg [⟨(some 187), .move (.tmp 32), none⟩,
    ⟨(some 188), .unOp .not 4 (.tmp 187), none⟩] [0, 188])
  (.cond (.tmp 188) (.seq (.reg [⟨(some 2), .assign (.const (.bool false)), none⟩] [2])
  .ret)
  .skip)))
  .skip))
  laws_FnMade_t14))
/-- slots: [0, 22, 23, 24, 25, 26, 27] -/
def laws_FnMade_t12 : ACode := (.cut [0, 22, 23, 24, 25, 26, 27] (.seq (.seq (.reg [⟨(some 159), .move (.tmp 22), none⟩,
    ⟨(some 160), .load 27 (.tmp 23), none⟩,
    ⟨(some 161), .load 55 (.tmp 24), none⟩,
    ⟨(some 162), .call ⟨.value (.func 63), #[(.tmp 159), (.tmp 160), (.tmp 161)], #[24, 27, 55]⟩, none⟩,
    ⟨(some 158), .move (.tmp 162), none⟩,
    ⟨(some 163), .extract (.tmp 158) 0, none⟩,
    ⟨(some 164), .extract (.tmp 158) 1, none⟩,
    ⟨(some 165), .extract (.tmp 158) 2, none⟩,
    ⟨(some 28), .assign (.tmp 163), none⟩,
    ⟨(some 29), .assign (.tmp 164), none⟩,
    ⟨(some 30), .assign (.tmp 165), none⟩] [0, 22, 23, 25, 26, 27, 28, 29, 30])
  (.seq (.reg [⟨(some 166), .move (.tmp 25), none⟩,
    ⟨(some 167), .move (.tmp 28), none⟩,
    ⟨(some 168), .binOp .neq 3 (.tmp 166) (.tmp 167) 3, none⟩,
    ⟨(some 169), .move (.tmp 168), none⟩,
    ⟨(some 170), .move (.tmp 26), (some (some 169, false))⟩,
    ⟨(some 171), .move (.tmp 29), (some (some 169, false))⟩,
    ⟨(some 172), .binOp .neq 3 (.tmp 170) (.tmp 171) 3, (some (some 169, false))⟩,
    ⟨(some 173), .pick (.tmp 169) (.const (.bool true)) (.tmp 172), none⟩,
    ⟨(some 174), .move (.tmp 173), none⟩,
    ⟨(some 175), .move (.tmp 27), (some (some 174, false))⟩,
    ⟨(some 176), .move (.tmp 30), (some (some 174, false))⟩,
    ⟨(some 177), .binOp .neq 4 (.tmp 175) (.tmp 176) 4, (some (some 174, false))⟩,
    ⟨(some 178), .pick (.tmp 174) (.const (.bool true)) (.tmp 177), none⟩] [0, 22, 23, 25, 27, 178])
  (.cond (.tmp 178) (.seq (.reg [⟨(some 2), .assign (.const (.bool false)), none⟩] [2])
  .ret)
  .skip)))
  laws_FnMade_t13))
/-- slots: [0, 22, 23, 24] -/
def laws_FnMade_t11 : ACode := (.cut [0, 22, 23, 24] (.seq (.reg [⟨(some 151), .move (.tmp 22), none⟩,
    ⟨(some 152), .load 27 (.tmp 23), none⟩,
    ⟨(some 153), .load 55 (.tmp 24), none⟩,
    ⟨(some 154), .call ⟨.value (.func 34), #[(.tmp 151), (.tmp 152), (.tmp 153)], #[24, 27, 55]⟩, none⟩,
    ⟨(some 150), .move (.tmp 154), none⟩,
    ⟨(some 155), .extract (.tmp 150) 0, none⟩,
    ⟨(some 156), .extract (.tmp 150) 1, none⟩,
    ⟨(some 157), .extract (.tmp 150) 2, none⟩,
    ⟨(some 25), .assign (.tmp 155), none⟩,
    ⟨(some 26), .assign (.tmp 156), none⟩,
    ⟨(some 27), .assign (.tmp 157), none⟩] [0, 22, 23, 24, 25, 26, 27])
  laws_FnMade_t12))
/-- slots: [0] -/
def laws_FnMade_t10 : ACode := (.cut [0] (.seq (.reg [⟨(some 145), .move (.tmp 0), none⟩,
    ⟨(some 146), .call ⟨.value (.func 62), #[(.tmp 145)], #[22]⟩, none⟩,
    ⟨(some 144), .move (.tmp 146), none⟩,
    ⟨(some 147), .extract (.tmp 144) 0, none⟩,
    ⟨(some 148), .extract (.tmp 144) 1, none⟩,
    ⟨(some 149), .extract (.tmp 144) 2, none⟩,
    ⟨(some 23), .alloc 27, none⟩,
    ⟨(some 24), .alloc 55, none⟩,
    ⟨(some 22), .assign (.tmp 147), none⟩,
    ⟨none, .store 27 (.tmp 23) (.tmp 148), none⟩,
    ⟨none, .store 55 (.tmp 24) (.tmp 149), none⟩] [0, 22, 23, 24])
  laws_FnMade_t11))
/-- slots: [0, 14, 15, 16, 17, 18, 19] -/
def laws_FnMade_t9 : ACode := (.cut [0, 14, 15, 16, 17, 18, 19] (.seq (.seq (.reg [⟨(some 121), .load 27 (.tmp 14), none⟩,
    ⟨(some 122), .load 27 (.tmp 15), none⟩,
    ⟨(some 123), .call ⟨.value (.func 61), #[(.tmp 121), (.tmp 122)], #[27, 27]⟩, none⟩,
    ⟨(some 120), .move (.tmp 123), none⟩,
    ⟨(some 124), .extract (.tmp 120) 0, none⟩,
    ⟨(some 125), .extract (.tmp 120) 1, none⟩,
    ⟨(some 20), .assign (.tmp 124), none⟩,
    ⟨(some 21), .assign (.tmp 125), none⟩] [0, 16, 17, 18, 19, 20, 21])
  (.seq (.reg [⟨(some 126), .move (.tmp 16), none⟩,
    ⟨(some 127), .move (.tmp 20), none⟩,
    ⟨(some 128), .binOp .neq 3 (.tmp 126) (.tmp 127) 3, none⟩,
    ⟨(some 129), .move (.tmp 128), none⟩,
    ⟨(some 130), .move (.tmp 17), (some (some 129, false))⟩,
    ⟨(some 131), .move (.tmp 21), (some (some 129, false))⟩,
    ⟨(some 132), .binOp .neq 4 (.tmp 130) (.tmp 131) 4, (some (some 129, false))⟩,
    ⟨(some 133), .pick (.tmp 129) (.const (.bool true)) (.tmp 132), none⟩,
    ⟨(some 134), .move (.tmp 133), none⟩,
    ⟨(some 135), .move (.tmp 19), (some (some 134, false))⟩,
    ⟨(some 136), .move (.tmp 17), (some (some 134, false))⟩,
    ⟨(some 137), .binOp .neq 4 (.tmp 135) (.tmp 136) 4, (some (some 134, false))⟩,
    ⟨(some 138), .pick (.tmp 134) (.const (.bool true)) (.tmp 137), none⟩,
    ⟨(some 139), .move (.tmp 138), none⟩,
    ⟨(some 140), .move (.tmp 18), (some (some 139, false))⟩,
    ⟨(some 141), .move (.tmp 16), (some (some 139, false))⟩,
    ⟨(some 142), .binOp .neq 3 (.tmp 140) (.tmp 141) 3, (some (some 139, false))⟩,
    ⟨(some 143), .pick (.tmp 139) (.const (.bool true)) (.tmp 142), none⟩] [0, 143])
  (.cond (.tmp 143) (.seq (.reg [⟨(some 2), .assign (.const (.bool false)), none⟩] [2])
  .ret)
  .skip)))
  laws_FnMade_t10))
/-- slots: [0, 14, 15, 16, 17] -/
def laws_FnMade_t8 : ACode := (.cut [0, 14, 15, 16, 17] (.seq (.reg [⟨(some 115), .load 27 (.tmp 15), none⟩,
    ⟨(some 116), .load 27 (.tmp 14), none⟩,
    ⟨(some 117), .call ⟨.value (.func 59), #[(.tmp 115), (.tmp 116)], #[27, 27]⟩, none⟩,
    ⟨(some 114), .move (.tmp 117), none⟩,
    ⟨(some 118), .extract (.tmp 114) 0, none⟩,
    ⟨(some 119), .extract (.tmp 114) 1, none⟩,
    ⟨(some 18), .assign (.tmp 118), none⟩,
    ⟨(some 19), .assign (.tmp 119), none⟩] [0, 14, 15, 16, 17, 18, 19])
  laws_FnMade_t9))
/-- slots: [0, 14, 15] -/
def laws_FnMade_t7 : ACode := (.cut [0, 14, 15] (.seq (.reg [⟨(some 109), .load 27 (.tmp 14), none⟩,
    ⟨(some 110), .load 27 (.tmp 15), none⟩,
    ⟨(some 111), .call ⟨.value (.func 59), #[(.tmp 109), (.tmp 110)], #[27, 27]⟩, none⟩,
    ⟨(some 108), .move (.tmp 111), none⟩,
    ⟨(some 112), .extract (.tmp 108) 0, none⟩,
    ⟨(some 113), .extract (.tmp 108) 1, none⟩,
    ⟨(some 16), .assign (.tmp 112), none⟩,
    ⟨(some 17), .assign (.tmp 113), none⟩] [0, 14, 15, 16, 17])
  laws_FnMade_t8))
/-- slots: [0] -/
def laws_FnMade_t6 : ACode := (.cut [0] (.seq (.reg [⟨(some 104), .move (.tmp 0), none⟩,
    ⟨(some 105), .call ⟨.value (.func 60), #[(.tmp 104)], #[22]⟩, none⟩,
    ⟨(some 103), .move (.tmp 105), none⟩,
    ⟨(some 106), .extract (.tmp 103) 0, none⟩,
    ⟨(some 107), .extract (.tmp 103) 1, none⟩,
    ⟨(some 14), .alloc 27, none⟩,
    ⟨(some 15), .alloc 27, none⟩,
    ⟨none, .store 27 (.tmp 14) (.tmp 106), none⟩,
    ⟨none, .store 27 (.tmp 15) (.tmp 107), none⟩] [0, 14, 15])
  laws_FnMade_t7))
/-- slots: [0, 3, 4, 5, 6, 7] -/
def laws_FnMade_t5 : ACode := (.cut [0, 3, 4, 5, 6, 7] (.seq (.seq (.reg [⟨(some 68), .move (.tmp 7), none⟩] [0, 3, 4, 5, 6, 68])
  (.cond (.tmp 68) (.seq (.reg [⟨(some 70), .load 27 (.tmp 4), none⟩,
    ⟨(some 71), .load 27 (.tmp 6), none⟩,
    ⟨(some 72), .call ⟨.value (.func 59), #[(.tmp 70), (.tmp 71)], #[27, 27]⟩, none⟩,
    ⟨(some 69), .move (.tmp 72), none⟩,
    ⟨(some 73), .extract (.tmp 69) 0, none⟩,
    ⟨(some 74), .extract (.tmp 69) 1, none⟩,
    ⟨(some 10), .assign (.tmp 73), none⟩,
    ⟨(some 11), .assign (.tmp 74), none⟩] [0, 3, 4, 5, 6, 10, 11])
  (.seq (.seq (.reg [⟨(some 75), .move (.tmp 11), none⟩,
    ⟨(some 76), .unOp .not 4 (.tmp 75), none⟩,
    ⟨(some 77), .move (.tmp 76), none⟩,
    ⟨(some 78), .move (.tmp 10), (some (some 77, false))⟩,
    ⟨(some 79), .move (.tmp 5), (some (some 77, false))⟩,
    ⟨(some 80), .binOp .and 3 (.tmp 78) (.tmp 79) 3, (some (some 77, false))⟩,
    ⟨(some 81), .move (.tmp 10), (some (some 77, false))⟩,
    ⟨(some 82), .binOp .neq 3 (.tmp 80) (.tmp 81) 3, (some (some 77, false))⟩,
    ⟨(some 83), .pick (.tmp 77) (.const (.bool true)) (.tmp 82), none⟩,
    ⟨(some 84), .move (.tmp 83), none⟩,
    ⟨(some 85), .load 27 (.tmp 6), (some (some 84, false))⟩,
    ⟨(some 86), .call ⟨.value (.func 21), #[(.tmp 85)], #[27]⟩, (some (some 84, false))⟩,
    ⟨(some 87), .unOp .not 4 (.tmp 86), (some (some 84, false))⟩,
    ⟨(some 88), .pick (.tmp 84) (.const (.bool true)) (.tmp 87), none⟩] [0, 3, 4, 10, 88])
  (.cond (.tmp 88) (.seq (.reg [⟨(some 2), .assign (.const (.bool false)), none⟩] [2])
  .ret)
  .skip))
  (.seq (.reg [⟨(some 89), .move (.tmp 10), none⟩,
    ⟨(some 90), .binOp .eql 3 (.tmp 89) (.const (.int .i64 0)) 3, none⟩] [0, 3, 4, 90])
  (.cond (.tmp 90) (.seq (.reg [⟨(some 92), .move (.tmp 3), none⟩,
    ⟨(some 93), .load 27 (.tmp 4), none⟩,
    ⟨(some 94), .call ⟨.value (.func 31), #[(.tmp 92), (.tmp 93)], #[24, 27]⟩, none⟩,
    ⟨(some 91), .move (.tmp 94), none⟩,
    ⟨(some 95), .extract (.tmp 91) 0, none⟩,
    ⟨(some 96), .extract (.tmp 91) 1, none⟩,
    ⟨(some 12), .assign (.tmp 95), none⟩,
    ⟨(some 13), .assign (.tmp 96), none⟩] [0, 12, 13])
  (.seq (.reg [⟨(some 97), .move (.tmp 13), none⟩,
    ⟨(some 98), .unOp .not 4 (.tmp 97), none⟩,
    ⟨(some 99), .move (.tmp 98), none⟩,
    ⟨(some 100), .move (.tmp 12), (some (some 99, false))⟩,
    ⟨(some 101), .unOp .not 4 (.tmp 100), (some (some 99, false))⟩,
    ⟨(some 102), .pick (.tmp 99) (.const (.bool true)) (.tmp 101), none⟩] [0, 102])
  (.cond (.tmp 102) (.seq (.reg [⟨(some 2), .assign (.const (.bool false)), none⟩] [2])
  .ret)
  .skip)))
  .skip))))
  .skip))
  laws_FnMade_t6))
/-- slots: [0, 3, 4, 5, 6, 7] -/
def laws_FnMade_t4 : ACode := (.cut [0, 3, 4, 5, 6, 7] (.seq (.seq (.reg [⟨(some 54), .move (.tmp 3), none⟩,
    ⟨(some 55), .load 27 (.tmp 4), none⟩,
    ⟨(some 56), .move (.tmp 5), none⟩,
    ⟨(some 57), .call ⟨.value (.func 58), #[(.tmp 54), (.tmp 55), (.tmp 56)], #[24, 27, 3]⟩, none⟩,
    ⟨(some 53), .move (.tmp 57), none⟩,
    ⟨(some 58), .extract (.tmp 53) 0, none⟩,
    ⟨(some 59), .extract (.tmp 53) 1, none⟩,
    ⟨(some 8), .alloc 27, none⟩,
    ⟨none, .store 27 (.tmp 8) (.tmp 58), none⟩,
    ⟨(some 9), .assign (.tmp 59), none⟩] [0, 3, 4, 5, 6, 7, 8, 9])
  (.seq (.reg [⟨(some 60), .load 27 (.tmp 6), none⟩,
    ⟨(some 61), .load 27 (.tmp 8), none⟩,
    ⟨(some 62), .binOp .neq 27 (.tmp 60) (.tmp 61) 27, none⟩,
    ⟨(some 63), .move (.tmp 62), none⟩,
    ⟨(some 64), .move (.tmp 7), (some (some 63, false))⟩,
    ⟨(some 65), .move (.tmp 9), (some (some 63, false))⟩,
    ⟨(some 66), .binOp .neq 4 (.tmp 64) (.tmp 65) 4, (some (some 63, false))⟩,
    ⟨(some 67), .pick (.tmp 63) (.const (.bool true)) (.tmp 66), none⟩] [0, 3, 4, 5, 6, 7, 67])
  (.cond (.tmp 67) (.seq (.reg [⟨(some 2), .assign (.const (.bool false)), none⟩] [2])
  .ret)
  .skip)))
  laws_FnMade_t5))
/-- slots: [0, 3, 4, 5] -/
def laws_FnMade_t3 : ACode := (.cut [0, 3, 4, 5] (.seq (.reg [⟨(some 47), .move (.tmp 3), none⟩,
    ⟨(some 48), .load 27 (.tmp 4), none⟩,
    ⟨(some 49), .move (.tmp 5), none⟩,
    ⟨(some 50), .call ⟨.value (.func 33), #[(.tmp 47), (.tmp 48), (.tmp 49)], #[24, 27, 3]⟩, none⟩,
    ⟨(some 46), .move (.tmp 50), none⟩,
    ⟨(some 51), .extract (.tmp 46) 0, none⟩,
    ⟨(some 52), .extract (.tmp 46) 1, none⟩,
    ⟨(some 6), .alloc 27, none⟩,
    ⟨none, .store 27 (.tmp 6) (.tmp 51), none⟩,
    ⟨(some 7), .assign (.tmp 52), none⟩] [0, 3, 4, 5, 6, 7])
  laws_FnMade_t4))
/-- slots: [0] -/
def laws_FnMade_t2 : ACode := (.cut [0] (.seq (.reg [⟨(some 41), .move (.tmp 0), none⟩,
    ⟨(some 42), .call ⟨.value (.func 57), #[(.tmp 41)], #[22]⟩, none⟩,
    ⟨(some 40), .move (.tmp 42), none⟩,
    ⟨(some 43), .extract (.tmp 40) 0, none⟩,
    ⟨(some 44), .extract (.tmp 40) 1, none⟩,
    ⟨(some 45), .extract (.tmp 40) 2, none⟩,
    ⟨(some 4), .alloc 27, none⟩,
    ⟨(some 3), .assign (.tmp 43), none⟩,
    ⟨none, .store 27 (.tmp 4) (.tmp 44), none⟩,
    ⟨(some 5), .assign (.tmp 45), none⟩] [0, 3, 4, 5])
  laws_FnMade_t3))
/-- slots: [0] -/
def laws_FnMade_t1 : ACode := (.cut [0] (.seq (.seq (.reg [⟨(some 38), .move (.tmp 0), none⟩,
    ⟨(some 39), .call ⟨.value (.func 8), #[(.tmp 38)], #[22]⟩, none⟩] [0, 39])
  (.cond (.tmp 39) (.seq (.reg [⟨(some 2), .assign (.const (.bool true)), none⟩] [2])
  .ret)
  .skip))
  laws_FnMade_t2))
/-- loop.example/g01062/laws.FnMade: number 7, params [0] -/
def laws_FnMade_c : ACode := (.seq (.reg [⟨(some 2), .assign (.const (.bool false)), none⟩] [0])
  laws_FnMade_t1)
theorem laws_FnMade_k : fnOk Try.prog (fun _ => false) 7 = some (laws_FnMade_c.strip, 209, [.tmp 2]) := by kernel_rfl
/-- loop.example/g01062/spec.DrawMakeCover: number 57, params [0] -/
def spec_DrawMakeCover_c : ACode := (.seq (.reg [⟨(some 2), .assign (.const (.slice none 0 0)), none⟩,
    ⟨(some 3), .alloc 27, none⟩,
    ⟨(some 4), .assign (.const (.int .i64 0)), none⟩] [0, 3])
  (.seq (.reg [⟨(some 8), .move (.tmp 0), none⟩,
    ⟨(some 9), .build 88 #[(0, (.tmp 8))], none⟩,
    ⟨(some 10), .box 88 (.tmp 9), none⟩,
    ⟨(some 5), .assign (.tmp 10), none⟩] [3, 5])
  (.seq (.reg [⟨(some 12), .move (.tmp 5), none⟩,
    ⟨(some 13), .call ⟨.value (.func 117), #[(.tmp 12)], #[85]⟩, none⟩,
    ⟨(some 11), .move (.tmp 13), none⟩,
    ⟨(some 14), .extract (.tmp 11) 0, none⟩,
    ⟨(some 15), .extract (.tmp 11) 1, none⟩,
    ⟨(some 7), .alloc 27, none⟩,
    ⟨(some 6), .assign (.tmp 14), none⟩,
    ⟨none, .store 27 (.tmp 7) (.tmp 15), none⟩] [3, 5, 6, 7])
  (.seq (.regF []
    [18, 20, 16, 17, 22, 23] [.load 27 (.tmp 7)] [] []
    [⟨(some 18), .move (.tmp 5), none⟩,
    ⟨(some 19), .call ⟨.value (.func 89), #[(.tmp 18), (.const (.int .i64 17))], #[85, 3]⟩, none⟩,
    ⟨(some 20), .move (.tmp 5), none⟩,
    ⟨(some 21), .call ⟨.value (.func 89), #[(.tmp 20), (.const (.int .i64 17))], #[85, 3]⟩, none⟩,
    ⟨(some 16), .move (.tmp 6), none⟩,
    ⟨(some 2), .assign (.tmp 16), none⟩,
    ⟨(some 17), .load 27 (.tmp 7), none⟩,
    ⟨none, .store 27 (.tmp 3) (.tmp 17), none⟩,
    ⟨(some 22), .binOp .quo 3 (.tmp 21) (.const (.int .i64 16)) 3, none⟩,
    ⟨(some 23), .binOp .sub 3 (.tmp 19) (.tmp 22) 3, none⟩,
    ⟨(some 4), .assign (.tmp 23), none⟩] [2, 3, 4])
  .ret))))
theorem spec_DrawMakeCover_k : fnOk Try.prog (fun i => i == 3) 57 = some (spec_DrawMakeCover_c.strip, 24, [.tmp 2, .cell 3 27, .tmp 4]) := by kernel_rfl
/-- loop.example/g01062/spec.DrawChangeOf: number 60, params [0] -/
def spec_DrawChangeOf_c : ACode := (.seq (.reg [⟨(some 2), .alloc 27, none⟩,
    ⟨(some 3), .alloc 27, none⟩] [0, 2, 3])
  (.seq (.reg [⟨(some 7), .move (.tmp 0), none⟩,
    ⟨(some 8), .build 88 #[(0, (.tmp 7))], none⟩,
    ⟨(some 9), .box 88 (.tmp 8), none⟩,
    ⟨(some 4), .assign (.tmp 9), none⟩] [2, 3, 4])
  (.seq (.reg [⟨(some 10), .move (.tmp 4), none⟩,
    ⟨(some 11), .call ⟨.value (.func 69), #[(.tmp 10), (.const (.int .i64 7))], #[85, 3]⟩, none⟩,
    ⟨(some 5), .alloc 27, none⟩,
    ⟨none, .store 27 (.tmp 5) (.tmp 11), none⟩] [2, 3, 4, 5])
  (.seq (.reg [⟨(some 12), .load 27 (.tmp 5), none⟩,
    ⟨(some 6), .alloc 27, none⟩,
    ⟨none, .store 27 (.tmp 6) (.tmp 12), none⟩] [2, 3, 4, 5, 6])
  (.seq (.seq (.reg [⟨(some 13), .move (.tmp 4), none⟩,
    ⟨(some 14), .call ⟨.value (.func 89), #[(.tmp 13), (.const (.int .i64 6))], #[85, 3]⟩, none⟩] [2, 3, 4, 5, 6, 14])
  (.block 0 (.seq (.reg [⟨(some 16), .binOp .eql 3 (.tmp 14) (.const (.int .i64 0)) 3, none⟩,
    ⟨(some 15), .assign (.tmp 16), none⟩] [2, 3, 4, 5, 6, 14, 15])
  (.cond (.tmp 15) (.reg [⟨(some 17), .fieldAddr 27 (.tmp 6) 1, none⟩,
    ⟨none, .store 3 (.tmp 17) (.const (.int .i64 14)), none⟩] [2, 3, 5, 6])
  (.seq (.reg [⟨(some 19), .binOp .eql 3 (.tmp 14) (.const (.int .i64 1)) 3, none⟩,
    ⟨(some 18), .assign (.tmp 19), none⟩] [2, 3, 4, 5, 6, 14, 18])
  (.cond (.tmp 18) (.seq (.reg [⟨(some 20), .fieldAddr 27 (.tmp 6) 2, none⟩,
    ⟨none, .store 3 (.tmp 20) (.const (.int .i64 2)), none⟩] [2, 3, 5, 6])
  (.reg [⟨(some 21), .fieldAddr 27 (.tmp 6) 4, none⟩,
    ⟨none, .store 3 (.tmp 21) (.const (.int .i64 60)), none⟩] [2, 3, 5, 6]))
  (.seq (.reg [⟨(some 23), .binOp .eql 3 (.tmp 14) (.const (.int .i64 2)) 3, none⟩,
    ⟨(some 22), .assign (.tmp 23), none⟩] [2, 3, 4, 5, 6, 14, 22])
  (.cond (.tmp 22) (.reg [⟨(some 24), .fieldAddr 27 (.tmp 6) 3, none⟩,
    ⟨none, .store 3 (.tmp 24) (.const (.int .i64 21)), none⟩] [2, 3, 5, 6])
  (.seq (.reg [⟨(some 26), .binOp .eql 3 (.tmp 14) (.const (.int .i64 3)) 3, none⟩,
    ⟨(some 25), .assign (.tmp 26), none⟩] [2, 3, 4, 5, 6, 14, 25])
  (.cond (.tmp 25) (.reg [⟨(some 27), .fieldAddr 27 (.tmp 6) 0, none⟩,
    ⟨none, .store 3 (.tmp 27) (.const (.int .i64 8)), none⟩] [2, 3, 5, 6])
  (.seq (.reg [⟨(some 29), .binOp .eql 3 (.tmp 14) (.const (.int .i64 4)) 3, none⟩,
    ⟨(some 28), .assign (.tmp 29), none⟩] [2, 3, 4, 5, 6, 28])
  (.cond (.tmp 28) (.reg [⟨(some 30), .move (.tmp 4), none⟩,
    ⟨(some 31), .call ⟨.value (.func 69), #[(.tmp 30), (.const (.int .i64 7))], #[85, 3]⟩, none⟩,
    ⟨none, .store 27 (.tmp 6) (.tmp 31), none⟩] [2, 3, 5, 6])
  .skip))))))))))))
  (.seq (.regF []
    [32, 33] [.load 27 (.tmp 6)] [] []
    [⟨(some 32), .load 27 (.tmp 5), none⟩,
    ⟨none, .store 27 (.tmp 2) (.tmp 32), none⟩,
    ⟨(some 33), .load 27 (.tmp 6), none⟩,
    ⟨none, .store 27 (.tmp 3) (.tmp 33), none⟩] [2, 3])
  .ret))))))
theorem spec_DrawChangeOf_k : fnOk Try.prog (fun _ => false) 60 = some (spec_DrawChangeOf_c.strip, 34, [.cell 2 27, .cell 3 27]) := by kernel_rfl
/-- loop.example/g01062/spec.DrawCheapestChange: number 62, params [0] -/
def spec_DrawCheapestChange_c : ACode := (.seq (.reg [⟨(some 2), .assign (.const (.slice none 0 0)), none⟩,
    ⟨(some 3), .alloc 27, none⟩,
    ⟨(some 4), .alloc 55, none⟩] [0, 3, 4])
  (.seq (.reg [⟨(some 8), .move (.tmp 0), none⟩,
    ⟨(some 9), .build 88 #[(0, (.tmp 8))], none⟩,
    ⟨(some 10), .box 88 (.tmp 9), none⟩,
    ⟨(some 5), .assign (.tmp 10), none⟩] [3, 4, 5])
  (.seq (.reg [⟨(some 12), .move (.tmp 5), none⟩,
    ⟨(some 13), .call ⟨.value (.func 117), #[(.tmp 12)], #[85]⟩, none⟩,
    ⟨(some 11), .move (.tmp 13), none⟩,
    ⟨(some 14), .extract (.tmp 11) 0, none⟩,
    ⟨(some 15), .extract (.tmp 11) 1, none⟩,
    ⟨(some 7), .alloc 27, none⟩,
    ⟨(some 6), .assign (.tmp 14), none⟩,
    ⟨none, .store 27 (.tmp 7) (.tmp 15), none⟩] [3, 4, 5, 6, 7])
  (.seq (.regF []
    [18, 19, 21, 22, 24, 25, 27, 28, 16, 17, 30] [.load 27 (.tmp 7)] [] []
    [⟨(some 18), .move (.tmp 5), none⟩,
    ⟨(some 19), .buildSlice 33 5 #[(0, (.const (.int .i64 0))), (1, (.const (.int .i64 1))), (2, (.const (.int .i64 5))), (3, (.const (.int .i64 1000))), (4, (.const (.int .i64 1001)))], none⟩,
    ⟨(some 20), .call ⟨.value (.func 88), #[(.tmp 18), (.tmp 19)], #[85, 33]⟩, none⟩,
    ⟨(some 21), .move (.tmp 5), none⟩,
    ⟨(some 22), .buildSlice 33 4 #[(0, (.const (.int .i64 0))), (1, (.const (.int .i64 1))), (2, (.const (.int .i64 3))), (3, (.const (.int .i64 1000)))], none⟩,
    ⟨(some 23), .call ⟨.value (.func 88), #[(.tmp 21), (.tmp 22)], #[85, 33]⟩, none⟩,
    ⟨(some 24), .move (.tmp 5), none⟩,
    ⟨(some 25), .buildSlice 33 4 #[(0, (.const (.int .i64 0))), (1, (.const (.int .i64 2))), (2, (.const (.int .i64 5))), (3, (.const (.int .i64 1000)))], none⟩,
    ⟨(some 26), .call ⟨.value (.func 88), #[(.tmp 24), (.tmp 25)], #[85, 33]⟩, none⟩,
    ⟨(some 27), .move (.tmp 5), none⟩,
    ⟨(some 28), .buildSlice 33 5 #[(0, (.const (.int .i64 1))), (1, (.const (.int .i64 2))), (2, (.const (.int .i64 9))), (3, (.const (.int .i64 1000))), (4, (.const (.int .i64 (-1))))], none⟩,
    ⟨(some 29), .call ⟨.value (.func 88), #[(.tmp 27), (.tmp 28)], #[85, 33]⟩, none⟩,
    ⟨(some 16), .move (.tmp 6), none⟩,
    ⟨(some 2), .assign (.tmp 16), none⟩,
    ⟨(some 17), .load 27 (.tmp 7), none⟩,
    ⟨none, .store 27 (.tmp 3) (.tmp 17), none⟩,
    ⟨(some 30), .build 55 #[(0, (.tmp 20)), (1, (.tmp 23)), (2, (.tmp 26)), (3, (.tmp 29))], none⟩,
    ⟨none, .store 55 (.tmp 4) (.tmp 30), none⟩] [2, 3, 4])
  .ret))))
theorem spec_DrawCheapestChange_k : fnOk Try.prog (fun i => i == 3) 62 = some (spec_DrawCheapestChange_c.strip, 31, [.tmp 2, .cell 3 27, .cell 4 55]) := by kernel_rfl
/-- loop.example/g01062/spec.DrawChangeText: number 64, params [0] -/
def spec_DrawChangeText_c : ACode := (.seq (.reg [⟨(some 2), .assign (.const (.int .i64 0)), none⟩] [0])
  (.seq (.reg [⟨(some 4), .move (.tmp 0), none⟩,
    ⟨(some 5), .build 88 #[(0, (.tmp 4))], none⟩,
    ⟨(some 6), .box 88 (.tmp 5), none⟩,
    ⟨(some 3), .assign (.tmp 6), none⟩] [3])
  (.seq (.reg [⟨(some 7), .move (.tmp 3), none⟩,
    ⟨(some 8), .call ⟨.value (.func 89), #[(.tmp 7), (.const (.int .i64 17))], #[85, 3]⟩, none⟩,
    ⟨(some 9), .move (.tmp 3), none⟩,
    ⟨(some 10), .call ⟨.value (.func 89), #[(.tmp 9), (.const (.int .i64 17))], #[85, 3]⟩, none⟩,
    ⟨(some 11), .binOp .quo 3 (.tmp 10) (.const (.int .i64 16)) 3, none⟩,
    ⟨(some 12), .binOp .sub 3 (.tmp 8) (.tmp 11) 3, none⟩,
    ⟨(some 2), .assign (.tmp 12), none⟩] [2])
  .ret)))
theorem spec_DrawChangeText_k : fnOk Try.prog (fun _ => false) 64 = some (spec_DrawChangeText_c.strip, 13, [.tmp 2]) := by kernel_rfl
/-- slots: [0, 3, 4, 5, 6, 43] -/
def __spec_l1Cur__rates_r0 : ACode := (.cut [0, 3, 4, 5, 6, 43] (.cond (.tmp 43) (.regF [⟨(some 47), .fieldAddr 122 (.tmp 6) 1, none⟩,
    ⟨(some 49), .fieldAddr 122 (.tmp 6) 3, none⟩]
    [51, 52, 45, 46, 48, 50, 54, 44, 56] [.load 3 (.tmp 47), .load 3 (.tmp 49)] [] []
    [⟨(some 51), .move (.tmp 0), none⟩,
    ⟨(some 52), .buildSlice 33 3 #[(0, (.const (.int .i64 1))), (1, (.const (.int .i64 1))), (2, (.const (.int .i64 3)))], none⟩,
    ⟨(some 53), .call ⟨.value (.func 88), #[(.tmp 51), (.tmp 52)], #[85, 33]⟩, none⟩,
    ⟨(some 45), .move (.tmp 0), none⟩,
    ⟨(some 46), .move (.tmp 4), none⟩,
    ⟨(some 48), .load 3 (.tmp 47), none⟩,
    ⟨(some 50), .load 3 (.tmp 49), none⟩,
    ⟨(some 54), .binOp .add 3 (.tmp 50) (.tmp 53) 3, none⟩,
    ⟨(some 55), .call ⟨.value (.func 121), #[(.tmp 45), (.tmp 46), (.tmp 48), (.tmp 54)], #[85, 3, 3, 3]⟩, none⟩,
    ⟨(some 44), .move (.tmp 3), none⟩,
    ⟨(some 56), .buildSlice 24 1 #[(0, (.tmp 55))], none⟩,
    ⟨(some 57), .call ⟨.builtin .append, #[(.tmp 44), (.tmp 56)], #[24, 24]⟩, none⟩,
    ⟨(some 3), .assign (.tmp 57), none⟩] [0, 3, 4, 5])
  .skip))
/-- slots: [0, 3, 4, 5] -/
def __spec_l1Cur__rates_r1 : ACode := (.cut [0, 3, 4, 5] (.seq (.reg [⟨(some 31), .move (.tmp 3), none⟩,
    ⟨(some 32), .move (.tmp 3), none⟩,
    ⟨(some 33), .call ⟨.builtin .len, #[(.tmp 32)], #[24]⟩, none⟩,
    ⟨(some 34), .binOp .sub 3 (.tmp 33) (.const (.int .i64 1)) 3, none⟩,
    ⟨(some 35), .indexAddr 24 (.tmp 31) (.tmp 34), none⟩,
    ⟨(some 36), .load 122 (.tmp 35), none⟩,
    ⟨(some 6), .alloc 122, none⟩,
    ⟨none, .store 122 (.tmp 6) (.tmp 36), none⟩] [0, 3, 4, 5, 6])
  (.seq (.reg [⟨(some 37), .move (.tmp 0), none⟩,
    ⟨(some 38), .call ⟨.value (.func 120), #[(.tmp 37), (.const (.int .i64 2))], #[85, 3]⟩, none⟩,
    ⟨(some 39), .move (.tmp 38), none⟩,
    ⟨(some 40), .fieldAddr 122 (.tmp 6) 3, (some (some 39, true))⟩,
    ⟨(some 41), .load 3 (.tmp 40), (some (some 39, true))⟩,
    ⟨(some 42), .binOp .lss 3 (.tmp 41) (.const (.int .i64 30)) 3, (some (some 39, true))⟩,
    ⟨(some 43), .pick (.tmp 39) (.tmp 42) (.const (.bool false)), none⟩] [0, 3, 4, 5, 6, 43])
  __spec_l1Cur__rates_r0)))
/-- slots: [0, 3, 4, 5, 17] -/
def __spec_l1Cur__rates_r2 : ACode := (.cut [0, 3, 4, 5, 17] (.cond (.tmp 17) (.seq (.regF [⟨(some 22), .move (.tmp 5), none⟩]
    [25, 26, 19, 20, 21, 23, 24, 18, 29] [] [] []
    [⟨(some 25), .move (.tmp 0), none⟩,
    ⟨(some 26), .buildSlice 33 3 #[(0, (.const (.int .i64 0))), (1, (.const (.int .i64 0))), (2, (.const (.int .i64 5)))], none⟩,
    ⟨(some 27), .call ⟨.value (.func 88), #[(.tmp 25), (.tmp 26)], #[85, 33]⟩, none⟩,
    ⟨(some 19), .move (.tmp 0), none⟩,
    ⟨(some 20), .move (.tmp 4), none⟩,
    ⟨(some 21), .buildSlice 33 3 #[(0, (.const (.int .i64 20))), (1, (.const (.int .i64 50))), (2, (.const (.int .i64 100)))], none⟩,
    ⟨(some 23), .indexAddr 33 (.tmp 21) (.tmp 22), none⟩,
    ⟨(some 24), .load 3 (.tmp 23), none⟩,
    ⟨(some 28), .call ⟨.value (.func 121), #[(.tmp 19), (.tmp 20), (.tmp 24), (.tmp 27)], #[85, 3, 3, 3]⟩, none⟩,
    ⟨(some 18), .move (.tmp 3), none⟩,
    ⟨(some 29), .buildSlice 24 1 #[(0, (.tmp 28))], none⟩,
    ⟨(some 30), .call ⟨.builtin .append, #[(.tmp 18), (.tmp 29)], #[24, 24]⟩, none⟩,
    ⟨(some 3), .assign (.tmp 30), none⟩] [0, 3, 4, 5])
  __spec_l1Cur__rates_r1)
  .skip))
/-- slots: [0, 3, 4, 5] -/
def __spec_l1Cur__rates_r3 : ACode := (.cut [0, 3, 4, 5] (.reg [⟨(some 14), .move (.tmp 5), none⟩,
    ⟨(some 15), .binOp .add 3 (.tmp 14) (.const (.int .i64 1)) 3, none⟩,
    ⟨(some 5), .assign (.tmp 15), none⟩] [0, 3, 4, 5]))
/-- head: [0, 3, 4, 5] -/
def __spec_l1Cur__rates_l0 : ACode := (.seq (.seq (.reg [⟨(some 12), .move (.tmp 5), none⟩,
    ⟨(some 13), .binOp .lss 3 (.tmp 12) (.const (.int .i64 3)) 3, none⟩] [0, 3, 4, 5, 13])
  (.cond (.tmp 13) .skip
  (.exit 2)))
  (.seq (.block 3 (.seq (.reg [⟨(some 16), .move (.tmp 0), none⟩,
    ⟨(some 17), .call ⟨.value (.func 120), #[(.tmp 16), (.const (.int .i64 2))], #[85, 3]⟩, none⟩] [0, 3, 4, 5, 17])
  __spec_l1Cur__rates_r2))
  __spec_l1Cur__rates_r3))
/-- slots: [0, 3, 4] -/
def __spec_l1Cur__rates_r5 : ACode := (.cut [0, 3, 4] (.reg [⟨(some 10), .move (.tmp 4), none⟩,
    ⟨(some 11), .binOp .add 3 (.tmp 10) (.const (.int .i64 1)) 3, none⟩,
    ⟨(some 4), .assign (.tmp 11), none⟩] [0, 3, 4]))
/-- head: [0, 3, 4] -/
def __spec_l1Cur__rates_l1 : ACode := (.seq (.seq (.reg [⟨(some 8), .move (.tmp 4), none⟩,
    ⟨(some 9), .binOp .lss 3 (.tmp 8) (.const (.int .i64 3)) 3, none⟩] [0, 3, 4, 9])
  (.cond (.tmp 9) .skip
  (.exit 0)))
  (.seq (.block 1 (.seq (.reg [⟨(some 5), .assign (.const (.int .i64 0)), none⟩] [0, 3, 4, 5])
  (.block 2 (.loop __spec_l1Cur__rates_l0))))
  __spec_l1Cur__rates_r5))
/-- slots: [0, 3, 80] -/
def __spec_l1Cur__rates_r7 : ACode := (.cut [0, 3, 80] (.cond (.tmp 80) .skip
  (.exit 5)))
/-- slots: [0, 3] -/
def __spec_l1Cur__rates_r8 : ACode := (.cut [0, 3] (.block 6 (.reg [⟨(some 81), .move (.tmp 3), none⟩,
    ⟨(some 82), .move (.tmp 3), none⟩,
    ⟨(some 83), .call ⟨.builtin .len, #[(.tmp 82)], #[24]⟩, none⟩,
    ⟨(some 84), .binOp .add 3 (.const (.int .i64 10)) (.tmp 83) 3, none⟩,
    ⟨(some 85), .build 122 #[(0, (.const (.int .i64 8))), (1, (.tmp 84)), (3, (.const (.int .i64 7))), (4, (.const (.int .i64 4)))], none⟩,
    ⟨(some 86), .buildSlice 24 1 #[(0, (.tmp 85))], none⟩,
    ⟨(some 87), .call ⟨.builtin .append, #[(.tmp 81), (.tmp 86)], #[24, 24]⟩, none⟩,
    ⟨(some 3), .assign (.tmp 87), none⟩] [0, 3])))
/-- head: [0, 3] -/
def __spec_l1Cur__rates_l2 : ACode := (.seq (.seq (.reg [⟨(some 75), .move (.tmp 3), none⟩,
    ⟨(some 76), .call ⟨.builtin .len, #[(.tmp 75)], #[24]⟩, none⟩,
    ⟨(some 77), .move (.tmp 0), none⟩,
    ⟨(some 78), .call ⟨.value (.func 89), #[(.tmp 77), (.const (.int .i64 2))], #[85, 3]⟩, none⟩,
    ⟨(some 79), .binOp .add 3 (.const (.int .i64 16)) (.tmp 78) 3, none⟩,
    ⟨(some 80), .binOp .lss 3 (.tmp 76) (.tmp 79) 3, none⟩] [0, 3, 80])
  __spec_l1Cur__rates_r7)
  __spec_l1Cur__rates_r8)
/-- slots: [0, 3, 59] -/
def __spec_l1Cur__rates_r10 : ACode := (.cut [0, 3, 59] (.block 4 (.seq (.reg [⟨(some 61), .binOp .eql 3 (.tmp 59) (.const (.int .i64 0)) 3, none⟩,
    ⟨(some 60), .assign (.tmp 61), none⟩] [0, 3, 59, 60])
  (.cond (.tmp 60) (.reg [⟨(some 62), .move (.tmp 3), none⟩,
    ⟨(some 63), .move (.tmp 0), none⟩,
    ⟨(some 64), .move (.tmp 0), none⟩,
    ⟨(some 65), .buildSlice 33 4 #[(0, (.const (.int .i64 (-1)))), (1, (.const (.int .i64 2))), (2, (.const (.int .i64 9))), (3, (.const (.int .i64 10)))], none⟩,
    ⟨(some 66), .call ⟨.value (.func 88), #[(.tmp 64), (.tmp 65)], #[85, 33]⟩, none⟩,
    ⟨(some 67), .move (.tmp 0), none⟩,
    ⟨(some 68), .buildSlice 33 4 #[(0, (.const (.int .i64 0))), (1, (.const (.int .i64 100))), (2, (.const (.int .i64 2000))), (3, (.const (.int .i64 2001)))], none⟩,
    ⟨(some 69), .call ⟨.value (.func 88), #[(.tmp 67), (.tmp 68)], #[85, 33]⟩, none⟩,
    ⟨(some 70), .call ⟨.value (.func 121), #[(.tmp 63), (.tmp 66), (.tmp 69), (.const (.int .i64 3))], #[85, 3, 3, 3]⟩, none⟩,
    ⟨(some 71), .buildSlice 24 1 #[(0, (.tmp 70))], none⟩,
    ⟨(some 72), .call ⟨.builtin .append, #[(.tmp 62), (.tmp 71)], #[24, 24]⟩, none⟩,
    ⟨(some 3), .assign (.tmp 72), none⟩] [3])
  (.seq (.reg [⟨(some 74), .binOp .eql 3 (.tmp 59) (.const (.int .i64 1)) 3, none⟩,
    ⟨(some 73), .assign (.tmp 74), none⟩] [0, 3, 73])
  (.cond (.tmp 73) (.block 5 (.loop __spec_l1Cur__rates_l2))
  .skip))))))
/-- slots: [3] -/
def __spec_l1Cur__rates_r11 : ACode := (.cut [3] (.seq (.reg [⟨(some 88), .move (.tmp 3), none⟩,
    ⟨(some 2), .assign (.tmp 88), none⟩] [2])
  .ret))
/-- slots: [0, 3] -/
def __spec_l1Cur__rates_r12 : ACode := (.cut [0, 3] (.seq (.seq (.reg [⟨(some 58), .move (.tmp 0), none⟩,
    ⟨(some 59), .call ⟨.value (.func 89), #[(.tmp 58), (.const (.int .i64 32))], #[85, 3]⟩, none⟩] [0, 3, 59])
  __spec_l1Cur__rates_r10)
  __spec_l1Cur__rates_r11))
/-- (*loop.example/g01062/spec.l1Cur).rates: number 67, params [0] -/
def __spec_l1Cur__rates_c : ACode := (.seq (.reg [⟨(some 2), .assign (.const (.slice none 0 0)), none⟩] [0])
  (.seq (.reg [⟨(some 7), .buildSlice 24 0 #[], none⟩,
    ⟨(some 3), .assign (.tmp 7), none⟩] [0, 3])
  (.seq (.seq (.reg [⟨(some 4), .assign (.const (.int .i64 0)), none⟩] [0, 3, 4])
  (.block 0 (.loop __spec_l1Cur__rates_l1)))
  __spec_l1Cur__rates_r12)))
theorem __spec_l1Cur__rates_k : fnOk Try.prog (fun i => i == 9 || i == 12) 67 = some (__spec_l1Cur__rates_c.strip, 89, [.tmp 2]) := by kernel_rfl
/-- slots: [0, 4, 6, 42] -/
def __spec_l1Cur__cover_r0 : ACode := (.cut [0, 4, 6, 42] (.cond (.tmp 42) (.reg [⟨(some 43), .fieldAddr 27 (.tmp 6) 5, none⟩,
    ⟨(some 44), .load 3 (.tmp 43), none⟩,
    ⟨(some 45), .binOp .add 3 (.tmp 44) (.const (.int .i64 1)) 3, none⟩,
    ⟨(some 46), .binOp .rem 3 (.tmp 45) (.const (.int .i64 4)) 3, none⟩,
    ⟨(some 47), .fieldAddr 27 (.tmp 6) 6, none⟩,
    ⟨none, .store 3 (.tmp 47) (.tmp 46), none⟩] [0, 4, 6])
  .skip))
/-- slots: [0, 4, 6, 49] -/
def __spec_l1Cur__cover_r1 : ACode := (.cut [0, 4, 6, 49] (.block 0 (.seq (.reg [⟨(some 51), .binOp .eql 3 (.tmp 49) (.const (.int .i64 0)) 3, none⟩,
    ⟨(some 50), .assign (.tmp 51), none⟩] [0, 4, 6, 49, 50])
  (.cond (.tmp 50) (.reg [⟨(some 52), .move (.tmp 0), none⟩,
    ⟨(some 53), .buildSlice 33 2 #[(0, (.const (.int .i64 0))), (1, (.const (.int .i64 10000)))], none⟩,
    ⟨(some 54), .call ⟨.value (.func 88), #[(.tmp 52), (.tmp 53)], #[85, 33]⟩, none⟩,
    ⟨(some 55), .fieldAddr 27 (.tmp 6) 4, none⟩,
    ⟨none, .store 3 (.tmp 55) (.tmp 54), none⟩] [4, 6])
  (.seq (.reg [⟨(some 57), .binOp .eql 3 (.tmp 49) (.const (.int .i64 1)) 3, none⟩,
    ⟨(some 56), .assign (.tmp 57), none⟩] [0, 4, 6, 56])
  (.cond (.tmp 56) (.reg [⟨(some 58), .move (.tmp 0), none⟩,
    ⟨(some 59), .buildSlice 33 3 #[(0, (.const (.int .i64 (-1)))), (1, (.const (.int .i64 9999))), (2, (.const (.int .i64 10000)))], none⟩,
    ⟨(some 60), .call ⟨.value (.func 88), #[(.tmp 58), (.tmp 59)], #[85, 33]⟩, none⟩,
    ⟨(some 61), .fieldAddr 27 (.tmp 6) 8, none⟩,
    ⟨none, .store 3 (.tmp 61) (.tmp 60), none⟩] [4, 6])
  .skip))))))
/-- slots: [4, 6] -/
def __spec_l1Cur__cover_r2 : ACode := (.cut [4, 6] (.seq (.reg [⟨(some 62), .load 27 (.tmp 6), none⟩,
    ⟨none, .store 27 (.tmp 4) (.tmp 62), none⟩] [4])
  .ret))
/-- slots: [0, 4, 6] -/
def __spec_l1Cur__cover_r3 : ACode := (.cut [0, 4, 6] (.seq (.seq (.reg [⟨(some 48), .move (.tmp 0), none⟩,
    ⟨(some 49), .call ⟨.value (.func 89), #[(.tmp 48), (.const (.int .i64 64))], #[85, 3]⟩, none⟩] [0, 4, 6, 49])
  __spec_l1Cur__cover_r1)
  __spec_l1Cur__cover_r2))
/-- slots: [0, 4, 6] -/
def __spec_l1Cur__cover_r4 : ACode := (.cut [0, 4, 6] (.seq (.seq (.reg [⟨(some 33), .fieldAddr 27 (.tmp 6) 5, none⟩,
    ⟨(some 34), .load 3 (.tmp 33), none⟩,
    ⟨(some 35), .fieldAddr 27 (.tmp 6) 6, none⟩,
    ⟨(some 36), .load 3 (.tmp 35), none⟩,
    ⟨(some 37), .binOp .eql 3 (.tmp 34) (.tmp 36) 3, none⟩,
    ⟨(some 38), .move (.tmp 37), none⟩,
    ⟨(some 39), .move (.tmp 0), (some (some 38, true))⟩,
    ⟨(some 40), .call ⟨.value (.func 120), #[(.tmp 39), (.const (.int .i64 16))], #[85, 3]⟩, (some (some 38, true))⟩,
    ⟨(some 41), .unOp .not 4 (.tmp 40), (some (some 38, true))⟩,
    ⟨(some 42), .pick (.tmp 38) (.tmp 41) (.const (.bool false)), none⟩] [0, 4, 6, 42])
  __spec_l1Cur__cover_r0)
  __spec_l1Cur__cover_r3))
/-- slots: [0, 1, 4, 5] -/
def __spec_l1Cur__cover_r5 : ACode := (.cut [0, 1, 4, 5] (.seq (.reg [⟨(some 10), .move (.tmp 1), none⟩,
    ⟨(some 11), .move (.tmp 0), none⟩,
    ⟨(some 12), .buildSlice 33 6 #[(0, (.const (.int .i64 0))), (1, (.const (.int .i64 4))), (2, (.const (.int .i64 5))), (3, (.const (.int .i64 9))), (4, (.const (.int .i64 10))), (5, (.const (.int .i64 14)))], none⟩,
    ⟨(some 13), .call ⟨.value (.func 88), #[(.tmp 11), (.tmp 12)], #[85, 33]⟩, none⟩,
    ⟨(some 14), .move (.tmp 0), none⟩,
    ⟨(some 15), .call ⟨.value (.func 89), #[(.tmp 14), (.const (.int .i64 3))], #[85, 3]⟩, none⟩,
    ⟨(some 16), .move (.tmp 0), none⟩,
    ⟨(some 17), .buildSlice 33 6 #[(0, (.const (.int .i64 1))), (1, (.const (.int .i64 20))), (2, (.const (.int .i64 21))), (3, (.const (.int .i64 50))), (4, (.const (.int .i64 100))), (5, (.const (.int .i64 101)))], none⟩,
    ⟨(some 18), .call ⟨.value (.func 88), #[(.tmp 16), (.tmp 17)], #[85, 33]⟩, none⟩,
    ⟨(some 19), .move (.tmp 0), none⟩,
    ⟨(some 20), .buildSlice 33 8 #[(0, (.const (.int .i64 3))), (1, (.const (.int .i64 4))), (2, (.const (.int .i64 5))), (3, (.const (.int .i64 5))), (4, (.const (.int .i64 10))), (5, (.const (.int .i64 12))), (6, (.const (.int .i64 25))), (7, (.const (.int .i64 60)))], none⟩,
    ⟨(some 21), .call ⟨.value (.func 88), #[(.tmp 19), (.tmp 20)], #[85, 33]⟩, none⟩,
    ⟨(some 22), .move (.tmp 0), none⟩,
    ⟨(some 23), .call ⟨.value (.func 89), #[(.tmp 22), (.const (.int .i64 4))], #[85, 3]⟩, none⟩,
    ⟨(some 24), .move (.tmp 0), none⟩,
    ⟨(some 25), .call ⟨.value (.func 89), #[(.tmp 24), (.const (.int .i64 4))], #[85, 3]⟩, none⟩,
    ⟨(some 26), .move (.tmp 5), none⟩,
    ⟨(some 27), .move (.tmp 5), none⟩,
    ⟨(some 28), .move (.tmp 0), none⟩,
    ⟨(some 29), .buildSlice 33 6 #[(0, (.const (.int .i64 0))), (1, (.const (.int .i64 10))), (2, (.const (.int .i64 30))), (3, (.const (.int .i64 60))), (4, (.const (.int .i64 90))), (5, (.const (.int .i64 900)))], none⟩,
    ⟨(some 30), .call ⟨.value (.func 88), #[(.tmp 28), (.tmp 29)], #[85, 33]⟩, none⟩,
    ⟨(some 31), .binOp .add 3 (.tmp 27) (.tmp 30) 3, none⟩,
    ⟨(some 32), .build 27 #[(0, (.tmp 10)), (1, (.tmp 13)), (2, (.tmp 15)), (3, (.tmp 18)), (4, (.tmp 21)), (5, (.tmp 23)), (6, (.tmp 25)), (7, (.tmp 26)), (8, (.tmp 31))], none⟩,
    ⟨(some 6), .alloc 27, none⟩,
    ⟨none, .store 27 (.tmp 6) (.tmp 32), none⟩] [0, 4, 6])
  __spec_l1Cur__cover_r4))
/-- (*loop.example/g01062/spec.l1Cur).cover: number 69, params [0, 1] -/
def __spec_l1Cur__cover_c : ACode := (.seq (.reg [⟨(some 4), .alloc 27, none⟩] [0, 1, 4])
  (.seq (.reg [⟨(some 7), .move (.tmp 0), none⟩,
    ⟨(some 8), .buildSlice 33 5 #[(0, (.const (.int .i64 0))), (1, (.const (.int .i64 0))), (2, (.const (.int .i64 5))), (3, (.const (.int .i64 10))), (4, (.const (.int .i64 11)))], none⟩,
    ⟨(some 9), .call ⟨.value (.func 88), #[(.tmp 7), (.tmp 8)], #[85, 33]⟩, none⟩,
    ⟨(some 5), .assign (.tmp 9), none⟩] [0, 1, 4, 5])
  __spec_l1Cur__cover_r5))
theorem __spec_l1Cur__cover_k : fnOk Try.prog (fun _ => false) 69 = some (__spec_l1Cur__cover_c.strip, 63, [.cell 4 27]) := by kernel_rfl
/-- (*loop.example/g01062/spec.l1Cur).among: number 88, params [0, 1] -/
def __spec_l1Cur__among_c : ACode := (.seq (.reg [⟨(some 4), .assign (.const (.int .i64 0)), none⟩] [0, 1])
  (.seq (.reg [⟨(some 5), .move (.tmp 1), none⟩,
    ⟨(some 6), .move (.tmp 0), none⟩,
    ⟨(some 7), .move (.tmp 1), none⟩,
    ⟨(some 8), .call ⟨.builtin .len, #[(.tmp 7)], #[33]⟩, none⟩,
    ⟨(some 9), .call ⟨.value (.func 89), #[(.tmp 6), (.tmp 8)], #[85, 3]⟩, none⟩,
    ⟨(some 10), .indexAddr 33 (.tmp 5) (.tmp 9), none⟩,
    ⟨(some 11), .load 3 (.tmp 10), none⟩,
    ⟨(some 4), .assign (.tmp 11), none⟩] [4])
  .ret))
theorem __spec_l1Cur__among_k : fnOk Try.prog (fun _ => false) 88 = some (__spec_l1Cur__among_c.strip, 12, [.tmp 4]) := by kernel_rfl
/-- (*loop.example/g01062/spec.l1Cur).pick: number 89, params [0, 1] -/
def __spec_l1Cur__pick_c : ACode := (.seq (.reg [⟨(some 4), .assign (.const (.int .i64 0)), none⟩] [0, 1])
  (.seq (.seq (.reg [⟨(some 6), .move (.tmp 1), none⟩,
    ⟨(some 7), .binOp .leq 3 (.tmp 6) (.const (.int .i64 1)) 3, none⟩] [0, 1, 7])
  (.cond (.tmp 7) (.seq (.reg [⟨(some 4), .assign (.const (.int .i64 0)), none⟩] [4])
  .ret)
  .skip))
  (.seq (.reg [⟨(some 8), .move (.tmp 0), none⟩,
    ⟨(some 9), .call ⟨.value (.func 144), #[(.tmp 8)], #[85]⟩, none⟩,
    ⟨(some 5), .assign (.tmp 9), none⟩] [0, 1, 5])
  (.seq (.seq (.reg [⟨(some 10), .move (.tmp 1), none⟩,
    ⟨(some 11), .binOp .gtr 3 (.tmp 10) (.const (.int .i64 200)) 3, none⟩] [0, 1, 5, 11])
  (.cond (.tmp 11) (.reg [⟨(some 12), .move (.tmp 5), none⟩,
    ⟨(some 13), .binOp .mul 3 (.tmp 12) (.const (.int .i64 256)) 3, none⟩,
    ⟨(some 14), .move (.tmp 0), none⟩,
    ⟨(some 15), .call ⟨.value (.func 144), #[(.tmp 14)], #[85]⟩, none⟩,
    ⟨(some 16), .binOp .add 3 (.tmp 13) (.tmp 15) 3, none⟩,
    ⟨(some 5), .assign (.tmp 16), none⟩] [1, 5])
  .skip))
  (.seq (.reg [⟨(some 17), .move (.tmp 5), none⟩,
    ⟨(some 18), .move (.tmp 1), none⟩,
    ⟨(some 19), .binOp .rem 3 (.tmp 17) (.tmp 18) 3, none⟩,
    ⟨(some 4), .assign (.tmp 19), none⟩] [4])
  .ret)))))
theorem __spec_l1Cur__pick_k : fnOk Try.prog (fun _ => false) 89 = some (__spec_l1Cur__pick_c.strip, 20, [.tmp 4]) := by kernel_rfl
/-- slots: [3, 4, 5, 6, 24] -/
def __spec_l1Cur__explained_r0 : ACode := (.cut [3, 4, 5, 6, 24] (.cond (.tmp 24) (.reg [⟨(some 25), .move (.tmp 6), none⟩,
    ⟨(some 26), .fieldAddr 27 (.tmp 5) 4, none⟩,
    ⟨none, .store 3 (.tmp 26) (.tmp 25), none⟩] [3, 4, 5])
  .skip))
/-- slots: [0, 3, 4, 5, 6] -/
def __spec_l1Cur__explained_r1 : ACode := (.cut [0, 3, 4, 5, 6] (.seq (.reg [⟨(some 19), .move (.tmp 6), none⟩,
    ⟨(some 20), .binOp .gtr 3 (.tmp 19) (.const (.int .i64 0)) 3, none⟩,
    ⟨(some 21), .move (.tmp 20), none⟩,
    ⟨(some 22), .move (.tmp 0), (some (some 21, true))⟩,
    ⟨(some 23), .call ⟨.value (.func 120), #[(.tmp 22), (.const (.int .i64 3))], #[85, 3]⟩, (some (some 21, true))⟩,
    ⟨(some 24), .pick (.tmp 21) (.tmp 23) (.const (.bool false)), none⟩] [3, 4, 5, 6, 24])
  __spec_l1Cur__explained_r0))
/-- slots: [3, 4, 5] -/
def __spec_l1Cur__explained_r2 : ACode := (.cut [3, 4, 5] (.seq (.regT [⟨(some 27), .move (.tmp 4), none⟩,
    ⟨(some 28), .load 27 (.tmp 5), none⟩,
    ⟨(some 2), .assign (.tmp 27), none⟩]
    [⟨none, .store 27 (.tmp 3) (.tmp 28), none⟩] [2, 3])
  .ret))
/-- slots: [0, 3, 4, 5] -/
def __spec_l1Cur__explained_r3 : ACode := (.cut [0, 3, 4, 5] (.seq (.seq (.reg [⟨(some 11), .move (.tmp 4), none⟩,
    ⟨(some 12), .fieldAddr 27 (.tmp 5) 1, none⟩,
    ⟨(some 13), .load 3 (.tmp 12), none⟩,
    ⟨(some 14), .fieldAddr 27 (.tmp 5) 2, none⟩,
    ⟨(some 15), .load 3 (.tmp 14), none⟩,
    ⟨(some 16), .fieldAddr 27 (.tmp 5) 3, none⟩,
    ⟨(some 17), .load 3 (.tmp 16), none⟩,
    ⟨(some 18), .call ⟨.value (.func 79), #[(.tmp 11), (.tmp 13), (.tmp 15), (.tmp 17)], #[24, 3, 3, 3]⟩, none⟩,
    ⟨(some 6), .assign (.tmp 18), none⟩] [0, 3, 4, 5, 6])
  __spec_l1Cur__explained_r1)
  __spec_l1Cur__explained_r2))
/-- (*loop.example/g01062/spec.l1Cur).explained: number 117, params [0] -/
def __spec_l1Cur__explained_c : ACode := (.seq (.reg [⟨(some 2), .assign (.const (.slice none 0 0)), none⟩,
    ⟨(some 3), .alloc 27, none⟩] [0, 3])
  (.seq (.reg [⟨(some 7), .move (.tmp 0), none⟩,
    ⟨(some 8), .call ⟨.value (.func 67), #[(.tmp 7)], #[85]⟩, none⟩,
    ⟨(some 9), .move (.tmp 0), none⟩,
    ⟨(some 10), .call ⟨.value (.func 69), #[(.tmp 9), (.const (.int .i64 7))], #[85, 3]⟩, none⟩,
    ⟨(some 5), .alloc 27, none⟩,
    ⟨(some 4), .assign (.tmp 8), none⟩,
    ⟨none, .store 27 (.tmp 5) (.tmp 10), none⟩] [0, 3, 4, 5])
  __spec_l1Cur__explained_r3))
theorem __spec_l1Cur__explained_k : fnOk Try.prog (fun _ => false) 117 = some (__spec_l1Cur__explained_c.strip, 29, [.tmp 2, .cell 3 27]) := by kernel_rfl
/-- (*loop.example/g01062/spec.l1Cur).one: number 120, params [0, 1] -/
def __spec_l1Cur__one_c : ACode := (.seq (.reg [⟨(some 4), .assign (.const (.bool false)), none⟩] [0, 1])
  (.seq (.reg [⟨(some 5), .move (.tmp 0), none⟩,
    ⟨(some 6), .move (.tmp 1), none⟩,
    ⟨(some 7), .call ⟨.value (.func 89), #[(.tmp 5), (.tmp 6)], #[85, 3]⟩, none⟩,
    ⟨(some 8), .binOp .eql 3 (.tmp 7) (.const (.int .i64 0)) 3, none⟩,
    ⟨(some 4), .assign (.tmp 8), none⟩] [4])
  .ret))
theorem __spec_l1Cur__one_k : fnOk Try.prog (fun _ => false) 120 = some (__spec_l1Cur__one_c.strip, 9, [.tmp 4]) := by kernel_rfl
/-- (*loop.example/g01062/spec.l1Cur).rate: number 121, params [0, 1, 2, 3] -/
def __spec_l1Cur__rate_c : ACode := (.seq (.reg [⟨(some 8), .alloc 122, none⟩] [0, 1, 2, 3, 8])
  (.seq (.reg [⟨(some 10), .move (.tmp 1), none⟩,
    ⟨(some 11), .move (.tmp 2), none⟩,
    ⟨(some 12), .move (.tmp 3), none⟩,
    ⟨(some 13), .move (.tmp 3), none⟩,
    ⟨(some 14), .move (.tmp 0), none⟩,
    ⟨(some 15), .buildSlice 33 4 #[(0, (.const (.int .i64 5))), (1, (.const (.int .i64 9))), (2, (.const (.int .i64 9))), (3, (.const (.int .i64 19)))], none⟩,
    ⟨(some 16), .call ⟨.value (.func 88), #[(.tmp 14), (.tmp 15)], #[85, 33]⟩, none⟩,
    ⟨(some 17), .binOp .add 3 (.tmp 13) (.tmp 16) 3, none⟩,
    ⟨(some 18), .move (.tmp 0), none⟩,
    ⟨(some 19), .buildSlice 33 7 #[(0, (.const (.int .i64 3))), (1, (.const (.int .i64 5))), (2, (.const (.int .i64 5))), (3, (.const (.int .i64 10))), (4, (.const (.int .i64 12))), (5, (.const (.int .i64 25))), (6, (.const (.int .i64 9999)))], none⟩,
    ⟨(some 20), .call ⟨.value (.func 88), #[(.tmp 18), (.tmp 19)], #[85, 33]⟩, none⟩,
    ⟨(some 21), .build 122 #[(0, (.tmp 10)), (1, (.tmp 11)), (2, (.tmp 12)), (3, (.tmp 17)), (4, (.tmp 20))], none⟩,
    ⟨(some 9), .alloc 122, none⟩,
    ⟨none, .store 122 (.tmp 9) (.tmp 21), none⟩] [0, 8, 9])
  (.seq (.seq (.reg [⟨(some 22), .move (.tmp 0), none⟩,
    ⟨(some 23), .call ⟨.value (.func 89), #[(.tmp 22), (.const (.int .i64 64))], #[85, 3]⟩, none⟩] [0, 8, 9, 23])
  (.block 0 (.seq (.reg [⟨(some 25), .binOp .eql 3 (.tmp 23) (.const (.int .i64 0)) 3, none⟩,
    ⟨(some 24), .assign (.tmp 25), none⟩] [0, 8, 9, 23, 24])
  (.cond (.tmp 24) (.reg [⟨(some 26), .move (.tmp 0), none⟩,
    ⟨(some 27), .fieldAddr 122 (.tmp 9) 2, none⟩,
    ⟨(some 28), .load 3 (.tmp 27), none⟩,
    ⟨(some 29), .binOp .sub 3 (.tmp 28) (.const (.int .i64 1)) 3, none⟩,
    ⟨(some 30), .buildSlice 33 3 #[(0, (.tmp 29)), (1, (.const (.int .i64 4000))), (2, (.const (.int .i64 4001)))], none⟩,
    ⟨(some 31), .call ⟨.value (.func 88), #[(.tmp 26), (.tmp 30)], #[85, 33]⟩, none⟩,
    ⟨(some 32), .fieldAddr 122 (.tmp 9) 3, none⟩,
    ⟨none, .store 3 (.tmp 32) (.tmp 31), none⟩] [8, 9])
  (.seq (.reg [⟨(some 34), .binOp .eql 3 (.tmp 23) (.const (.int .i64 1)) 3, none⟩,
    ⟨(some 33), .assign (.tmp 34), none⟩] [0, 8, 9, 33])
  (.cond (.tmp 33) (.reg [⟨(some 35), .move (.tmp 0), none⟩,
    ⟨(some 36), .buildSlice 33 2 #[(0, (.const (.int .i64 0))), (1, (.const (.int .i64 10000)))], none⟩,
    ⟨(some 37), .call ⟨.value (.func 88), #[(.tmp 35), (.tmp 36)], #[85, 33]⟩, none⟩,
    ⟨(some 38), .fieldAddr 122 (.tmp 9) 4, none⟩,
    ⟨none, .store 3 (.tmp 38) (.tmp 37), none⟩] [8, 9])
  .skip))))))
  (.seq (.reg [⟨(some 39), .load 122 (.tmp 9), none⟩,
    ⟨none, .store 122 (.tmp 8) (.tmp 39), none⟩] [8])
  .ret))))
theorem __spec_l1Cur__rate_k : fnOk Try.prog (fun _ => false) 121 = some (__spec_l1Cur__rate_c.strip, 40, [.cell 8 122]) := by kernel_rfl
/-- (*loop.example/g01062/spec.l1Cur).next: number 144, params [0] -/
def __spec_l1Cur__next_c : ACode := (.seq (.reg [⟨(some 2), .assign (.const (.int .i64 0)), none⟩] [0])
  (.seq (.reg [⟨(some 3), .assign (.const (.int .i64 0)), none⟩] [0, 3])
  (.seq (.seq (.regQ [⟨(some 4), .move (.tmp 0), none⟩,
    ⟨(some 5), .nilCheck (.tmp 4), none⟩,
    ⟨(some 6), .fieldAddr 88 (.tmp 5) 1, none⟩,
    ⟨(some 7), .load 3 (.tmp 6), none⟩,
    ⟨(some 8), .move (.tmp 0), none⟩,
    ⟨(some 9), .nilCheck (.tmp 8), none⟩,
    ⟨(some 10), .fieldAddr 88 (.tmp 9) 0, none⟩,
    ⟨(some 11), .load 22 (.tmp 10), none⟩,
    ⟨(some 12), .call ⟨.builtin .len, #[(.tmp 11)], #[22]⟩, none⟩,
    ⟨(some 13), .binOp .lss 3 (.tmp 7) (.tmp 12) 3, none⟩] [0, 3, 13])
  (.cond (.tmp 13) (.regQ [⟨(some 14), .move (.tmp 0), none⟩,
    ⟨(some 15), .nilCheck (.tmp 14), none⟩,
    ⟨(some 16), .fieldAddr 88 (.tmp 15) 0, none⟩,
    ⟨(some 17), .load 22 (.tmp 16), none⟩,
    ⟨(some 18), .move (.tmp 0), none⟩,
    ⟨(some 19), .nilCheck (.tmp 18), none⟩,
    ⟨(some 20), .fieldAddr 88 (.tmp 19) 1, none⟩,
    ⟨(some 21), .load 3 (.tmp 20), none⟩,
    ⟨(some 22), .indexAddr 22 (.tmp 17) (.tmp 21), none⟩,
    ⟨(some 23), .load 5 (.tmp 22), none⟩,
    ⟨(some 24), .convert 5 3 (.tmp 23), none⟩,
    ⟨(some 3), .assign (.tmp 24), none⟩] [0, 3])
  .skip))
  (.seq (.reg [⟨(some 25), .move (.tmp 0), none⟩,
    ⟨(some 26), .nilCheck (.tmp 25), none⟩,
    ⟨(some 27), .fieldAddr 88 (.tmp 26) 1, none⟩,
    ⟨(some 28), .load 3 (.tmp 27), none⟩,
    ⟨(some 29), .binOp .add 3 (.tmp 28) (.const (.int .i64 1)) 3, none⟩,
    ⟨(some 30), .nilCheck (.tmp 25), none⟩,
    ⟨(some 31), .fieldAddr 88 (.tmp 30) 1, none⟩,
    ⟨none, .store 3 (.tmp 31) (.tmp 29), none⟩] [0, 3])
  (.seq (.reg [⟨(some 32), .move (.tmp 0), none⟩,
    ⟨(some 33), .move (.tmp 0), none⟩,
    ⟨(some 34), .nilCheck (.tmp 33), none⟩,
    ⟨(some 35), .fieldAddr 88 (.tmp 34) 2, none⟩,
    ⟨(some 36), .load 86 (.tmp 35), none⟩,
    ⟨(some 37), .binOp .mul 86 (.tmp 36) (.const (.int .u64 6364136223846793005)) 86, none⟩,
    ⟨(some 38), .move (.tmp 3), none⟩,
    ⟨(some 39), .convert 3 86 (.tmp 38), none⟩,
    ⟨(some 40), .binOp .add 86 (.tmp 37) (.tmp 39) 86, none⟩,
    ⟨(some 41), .binOp .add 86 (.tmp 40) (.const (.int .u64 381907)) 86, none⟩,
    ⟨(some 42), .nilCheck (.tmp 32), none⟩,
    ⟨(some 43), .fieldAddr 88 (.tmp 42) 2, none⟩,
    ⟨none, .store 86 (.tmp 43) (.tmp 41), none⟩] [0, 3])
  (.seq (.seq (.regQ [⟨(some 44), .move (.tmp 0), none⟩,
    ⟨(some 45), .nilCheck (.tmp 44), none⟩,
    ⟨(some 46), .fieldAddr 88 (.tmp 45) 1, none⟩,
    ⟨(some 47), .load 3 (.tmp 46), none⟩,
    ⟨(some 48), .move (.tmp 0), none⟩,
    ⟨(some 49), .nilCheck (.tmp 48), none⟩,
    ⟨(some 50), .fieldAddr 88 (.tmp 49) 0, none⟩,
    ⟨(some 51), .load 22 (.tmp 50), none⟩,
    ⟨(some 52), .call ⟨.builtin .len, #[(.tmp 51)], #[22]⟩, none⟩,
    ⟨(some 53), .binOp .leq 3 (.tmp 47) (.tmp 52) 3, none⟩] [0, 3, 53])
  (.cond (.tmp 53) (.seq (.reg [⟨(some 54), .move (.tmp 3), none⟩,
    ⟨(some 2), .assign (.tmp 54), none⟩] [2])
  .ret)
  .skip))
  (.seq (.reg [⟨(some 55), .move (.tmp 0), none⟩,
    ⟨(some 56), .nilCheck (.tmp 55), none⟩,
    ⟨(some 57), .fieldAddr 88 (.tmp 56) 2, none⟩,
    ⟨(some 58), .load 86 (.tmp 57), none⟩,
    ⟨(some 59), .binOp .shr 86 (.tmp 58) (.const (.int .u64 40)) 141, none⟩,
    ⟨(some 60), .binOp .and 86 (.tmp 59) (.const (.int .u64 255)) 86, none⟩,
    ⟨(some 61), .convert 86 3 (.tmp 60), none⟩,
    ⟨(some 2), .assign (.tmp 61), none⟩] [2])
  .ret)))))))
theorem __spec_l1Cur__next_k : fnOk Try.prog (fun _ => false) 144 = some (__spec_l1Cur__next_c.strip, 62, [.tmp 2]) := by kernel_rfl
end Go.Proofs.Ytjiffkjeijfilaa

