/- Printed by a program of ours: the functions' abstract code and facts on their types. -/
import Derived.Test.YtjiffkjeijfilaaCoE
set_option maxRecDepth 8000
namespace Go.Proofs.Ytjiffkjeijfilaa
open Go Go.RowKit
@[simp] theorem ty_88 : tyK Try.prog 88 = some (.obj 3) := by kernel_rfl
@[simp] theorem fld_88_0 : fldK Try.prog 88 0 = some 0 := by kernel_rfl
@[simp] theorem fld_88_1 : fldK Try.prog 88 1 = some 1 := by kernel_rfl
@[simp] theorem fld_88_2 : fldK Try.prog 88 2 = some 2 := by kernel_rfl
@[simp] theorem pl_88 : plK Try.prog 88 = some (some [(0, 1), (1, 1), (2, 1)]) := by kernel_rfl
@[simp] theorem zero_88 : zeroK Try.prog 88 = some [.nils, .int .i64 0, .int .u64 0] := by kernel_rfl
/-- head: [3, 4, 7, 11, 24, 26, 27, 28] -/
def laws_FnChanges_l0 : ACode := (.seq (.seq (.reg [⟨(some 192), .move (.tmp 28), none⟩,
    ⟨(some 193), .binOp .leq 3 (.tmp 192) (.const (.int .i64 8)) 3, none⟩] [3, 4, 7, 11, 24, 26, 27, 28, 193])
  (.cond (.tmp 193) .skip
  (.exit 2)))
  (.seq (.block 3 (.reg [⟨(some 196), .move (.tmp 27), none⟩,
    ⟨(some 197), .move (.tmp 11), none⟩,
    ⟨(some 198), .move (.tmp 26), none⟩,
    ⟨(some 199), .indexAddr 33 (.tmp 197) (.tmp 198), none⟩,
    ⟨(some 200), .load 3 (.tmp 199), none⟩,
    ⟨(some 201), .move (.tmp 28), none⟩,
    ⟨(some 202), .binOp .quo 3 (.tmp 200) (.tmp 201) 3, none⟩,
    ⟨(some 203), .binOp .rem 3 (.tmp 202) (.const (.int .i64 2)) 3, none⟩,
    ⟨(some 204), .binOp .add 3 (.tmp 196) (.tmp 203) 3, none⟩,
    ⟨(some 27), .assign (.tmp 204), none⟩] [3, 4, 7, 11, 24, 26, 27, 28]))
  (.reg [⟨(some 194), .move (.tmp 28), none⟩,
    ⟨(some 195), .binOp .mul 3 (.const (.int .i64 2)) (.tmp 194) 3, none⟩,
    ⟨(some 28), .assign (.tmp 195), none⟩] [3, 4, 7, 11, 24, 26, 27, 28])))
/-- slots: [3, 4, 7, 11, 24, 26, 27] -/
def laws_FnChanges_r1 : ACode := (.cut [3, 4, 7, 11, 24, 26, 27] (.seq (.reg [⟨(some 205), .move (.tmp 27), none⟩,
    ⟨(some 206), .move (.tmp 24), none⟩,
    ⟨(some 207), .binOp .lss 3 (.tmp 205) (.tmp 206) 3, none⟩] [3, 4, 7, 11, 24, 26, 207])
  (.cond (.tmp 207) (.seq (.reg [⟨(some 2), .assign (.const (.bool false)), none⟩] [2])
  .ret)
  .skip)))
/-- slots: [3, 4, 7, 11, 24, 26] -/
def laws_FnChanges_r2 : ACode := (.cut [3, 4, 7, 11, 24, 26] (.reg [⟨(some 190), .move (.tmp 26), none⟩,
    ⟨(some 191), .binOp .add 3 (.tmp 190) (.const (.int .i64 1)) 3, none⟩,
    ⟨(some 26), .assign (.tmp 191), none⟩] [3, 4, 7, 11, 24, 26]))
/-- head: [3, 4, 7, 11, 24, 26] -/
def laws_FnChanges_l1 : ACode := (.seq (.seq (.reg [⟨(some 186), .move (.tmp 26), none⟩,
    ⟨(some 187), .move (.tmp 11), none⟩,
    ⟨(some 188), .call ⟨.builtin .len, #[(.tmp 187)], #[33]⟩, none⟩,
    ⟨(some 189), .binOp .lss 3 (.tmp 186) (.tmp 188) 3, none⟩] [3, 4, 7, 11, 24, 26, 189])
  (.cond (.tmp 189) .skip
  (.exit 0)))
  (.seq (.block 1 (.seq (.reg [⟨(some 27), .assign (.const (.int .i64 0)), none⟩] [3, 4, 7, 11, 24, 26, 27])
  (.seq (.seq (.reg [⟨(some 28), .assign (.const (.int .i64 1)), none⟩] [3, 4, 7, 11, 24, 26, 27, 28])
  (.block 2 (.loop laws_FnChanges_l0)))
  laws_FnChanges_r1)))
  laws_FnChanges_r2))
/-- head: [11, 29, 33] -/
def laws_FnChanges_l2 : ACode := (.seq (.seq (.reg [⟨(some 233), .move (.tmp 33), none⟩,
    ⟨(some 234), .move (.tmp 11), none⟩,
    ⟨(some 235), .call ⟨.builtin .len, #[(.tmp 234)], #[33]⟩, none⟩,
    ⟨(some 236), .binOp .lss 3 (.tmp 233) (.tmp 235) 3, none⟩] [11, 29, 33, 236])
  (.cond (.tmp 236) .skip
  (.exit 4)))
  (.seq (.block 5 (.seq (.reg [⟨(some 239), .move (.tmp 11), none⟩,
    ⟨(some 240), .move (.tmp 33), none⟩,
    ⟨(some 241), .indexAddr 33 (.tmp 239) (.tmp 240), none⟩,
    ⟨(some 242), .load 3 (.tmp 241), none⟩,
    ⟨(some 243), .move (.tmp 29), none⟩,
    ⟨(some 244), .binOp .and 3 (.tmp 242) (.tmp 243) 3, none⟩,
    ⟨(some 245), .move (.tmp 29), none⟩,
    ⟨(some 246), .binOp .neq 3 (.tmp 244) (.tmp 245) 3, none⟩] [11, 29, 33, 246])
  (.cond (.tmp 246) (.seq (.reg [⟨(some 2), .assign (.const (.bool false)), none⟩] [2])
  .ret)
  .skip)))
  (.reg [⟨(some 237), .move (.tmp 33), none⟩,
    ⟨(some 238), .binOp .add 3 (.tmp 237) (.const (.int .i64 1)) 3, none⟩,
    ⟨(some 33), .assign (.tmp 238), none⟩] [11, 29, 33])))
/-- slots: [] -/
def laws_FnChanges_t13 : ACode := (.cut [] (.seq (.reg [⟨(some 2), .assign (.const (.bool true)), none⟩] [2])
  .ret))
/-- slots: [11, 29] -/
def laws_FnChanges_t12 : ACode := (.cut [11, 29] (.seq (.seq (.reg [⟨(some 33), .assign (.const (.int .i64 0)), none⟩] [11, 29, 33])
  (.block 4 (.loop laws_FnChanges_l2)))
  laws_FnChanges_t13))
/-- slots: [3, 4, 7, 11, 29, 30] -/
def laws_FnChanges_t11 : ACode := (.cut [3, 4, 7, 11, 29, 30] (.seq (.seq (.reg [⟨(some 215), .move (.tmp 3), none⟩,
    ⟨(some 216), .load 27 (.tmp 4), none⟩,
    ⟨(some 217), .call ⟨.value (.func 37), #[(.tmp 215), (.tmp 216)], #[24, 27]⟩, none⟩,
    ⟨(some 214), .move (.tmp 217), none⟩,
    ⟨(some 218), .extract (.tmp 214) 0, none⟩,
    ⟨(some 219), .extract (.tmp 214) 1, none⟩,
    ⟨(some 31), .assign (.tmp 218), none⟩,
    ⟨(some 32), .assign (.tmp 219), none⟩] [7, 11, 29, 30, 31, 32])
  (.seq (.reg [⟨(some 220), .move (.tmp 29), none⟩,
    ⟨(some 221), .move (.tmp 31), none⟩,
    ⟨(some 222), .binOp .neq 3 (.tmp 220) (.tmp 221) 3, none⟩,
    ⟨(some 223), .move (.tmp 222), none⟩,
    ⟨(some 224), .move (.tmp 30), (some (some 223, false))⟩,
    ⟨(some 225), .move (.tmp 32), (some (some 223, false))⟩,
    ⟨(some 226), .binOp .neq 4 (.tmp 224) (.tmp 225) 4, (some (some 223, false))⟩,
    ⟨(some 227), .pick (.tmp 223) (.const (.bool true)) (.tmp 226), none⟩,
    ⟨(some 228), .move (.tmp 227), none⟩,
    ⟨(some 229), .move (.tmp 30), (some (some 228, false))⟩,
    ⟨(some 230), .move (.tmp 7), (some (some 228, false))⟩,
    ⟨(some 231), .binOp .neq 4 (.tmp 229) (.tmp 230) 4, (some (some 228, false))⟩,
    ⟨(some 232), .pick (.tmp 228) (.const (.bool true)) (.tmp 231), none⟩] [11, 29, 232])
  (.cond (.tmp 232) (.seq (.reg [⟨(some 2), .assign (.const (.bool false)), none⟩] [2])
  .ret)
  .skip)))
  laws_FnChanges_t12))
/-- slots: [3, 4, 7, 11] -/
def laws_FnChanges_t10 : ACode := (.cut [3, 4, 7, 11] (.seq (.reg [⟨(some 209), .move (.tmp 3), none⟩,
    ⟨(some 210), .load 27 (.tmp 4), none⟩,
    ⟨(some 211), .call ⟨.value (.func 36), #[(.tmp 209), (.tmp 210)], #[24, 27]⟩, none⟩,
    ⟨(some 208), .move (.tmp 211), none⟩,
    ⟨(some 212), .extract (.tmp 208) 0, none⟩,
    ⟨(some 213), .extract (.tmp 208) 1, none⟩,
    ⟨(some 29), .assign (.tmp 212), none⟩,
    ⟨(some 30), .assign (.tmp 213), none⟩] [3, 4, 7, 11, 29, 30])
  laws_FnChanges_t11))
/-- slots: [3, 4, 5, 6, 7, 11] -/
def laws_FnChanges_t9 : ACode := (.cut [3, 4, 5, 6, 7, 11] (.seq (.seq (.reg [⟨(some 130), .move (.tmp 7), none⟩] [3, 4, 5, 6, 7, 11, 130])
  (.cond (.tmp 130) (.seq (.reg [⟨(some 132), .move (.tmp 3), none⟩,
    ⟨(some 133), .load 27 (.tmp 4), none⟩,
    ⟨(some 134), .move (.tmp 5), none⟩,
    ⟨(some 135), .call ⟨.value (.func 33), #[(.tmp 132), (.tmp 133), (.tmp 134)], #[24, 27, 3]⟩, none⟩,
    ⟨(some 131), .move (.tmp 135), none⟩,
    ⟨(some 136), .extract (.tmp 131) 0, none⟩,
    ⟨(some 137), .extract (.tmp 131) 1, none⟩,
    ⟨(some 19), .alloc 27, none⟩,
    ⟨none, .store 27 (.tmp 19) (.tmp 136), none⟩,
    ⟨(some 20), .assign (.tmp 137), none⟩] [3, 4, 5, 6, 7, 11, 19, 20])
  (.seq (.reg [⟨(some 139), .move (.tmp 3), none⟩,
    ⟨(some 140), .load 27 (.tmp 6), none⟩,
    ⟨(some 141), .call ⟨.value (.func 31), #[(.tmp 139), (.tmp 140)], #[24, 27]⟩, none⟩,
    ⟨(some 138), .move (.tmp 141), none⟩,
    ⟨(some 142), .extract (.tmp 138) 0, none⟩,
    ⟨(some 143), .extract (.tmp 138) 1, none⟩,
    ⟨(some 21), .assign (.tmp 142), none⟩,
    ⟨(some 22), .assign (.tmp 143), none⟩] [3, 4, 5, 6, 7, 11, 19, 20, 21, 22])
  (.seq (.reg [⟨(some 145), .move (.tmp 3), none⟩,
    ⟨(some 146), .load 27 (.tmp 4), none⟩,
    ⟨(some 147), .build 55 #[(0, (.const (.int .i64 1))), (1, (.const (.int .i64 1))), (2, (.const (.int .i64 1))), (3, (.const (.int .i64 1)))], none⟩,
    ⟨(some 148), .call ⟨.value (.func 34), #[(.tmp 145), (.tmp 146), (.tmp 147)], #[24, 27, 55]⟩, none⟩,
    ⟨(some 144), .move (.tmp 148), none⟩,
    ⟨(some 149), .extract (.tmp 144) 0, none⟩,
    ⟨(some 150), .extract (.tmp 144) 1, none⟩,
    ⟨(some 151), .extract (.tmp 144) 2, none⟩,
    ⟨(some 23), .assign (.tmp 149), none⟩,
    ⟨(some 24), .assign (.tmp 150), none⟩,
    ⟨(some 25), .assign (.tmp 151), none⟩] [3, 4, 5, 6, 7, 11, 19, 20, 21, 22, 23, 24, 25])
  (.seq (.seq (.reg [⟨(some 152), .move (.tmp 20), none⟩,
    ⟨(some 153), .unOp .not 4 (.tmp 152), none⟩,
    ⟨(some 154), .move (.tmp 153), none⟩,
    ⟨(some 155), .load 27 (.tmp 19), (some (some 154, false))⟩,
    ⟨(some 156), .load 27 (.tmp 6), (some (some 154, false))⟩,
    ⟨(some 157), .binOp .neq 27 (.tmp 155) (.tmp 156) 27, (some (some 154, false))⟩,
    ⟨(some 158), .pick (.tmp 154) (.const (.bool true)) (.tmp 157), none⟩,
    ⟨(some 159), .move (.tmp 158), none⟩,
    ⟨(some 160), .move (.tmp 22), (some (some 159, false))⟩,
    ⟨(some 161), .unOp .not 4 (.tmp 160), (some (some 159, false))⟩,
    ⟨(some 162), .pick (.tmp 159) (.const (.bool true)) (.tmp 161), none⟩,
    ⟨(some 163), .move (.tmp 162), none⟩,
    ⟨(some 164), .move (.tmp 21), (some (some 163, false))⟩,
    ⟨(some 165), .unOp .not 4 (.tmp 164), (some (some 163, false))⟩,
    ⟨(some 166), .pick (.tmp 163) (.const (.bool true)) (.tmp 165), none⟩,
    ⟨(some 167), .move (.tmp 166), none⟩,
    ⟨(some 168), .move (.tmp 11), (some (some 167, false))⟩,
    ⟨(some 169), .move (.tmp 5), (some (some 167, false))⟩,
    ⟨(some 170), .call ⟨.value (.func 35), #[(.tmp 168), (.tmp 169)], #[33, 3]⟩, (some (some 167, false))⟩,
    ⟨(some 171), .unOp .not 4 (.tmp 170), (some (some 167, false))⟩,
    ⟨(some 172), .pick (.tmp 167) (.const (.bool true)) (.tmp 171), none⟩,
    ⟨(some 173), .move (.tmp 172), none⟩,
    ⟨(some 174), .move (.tmp 25), (some (some 173, false))⟩,
    ⟨(some 175), .unOp .not 4 (.tmp 174), (some (some 173, false))⟩,
    ⟨(some 176), .pick (.tmp 173) (.const (.bool true)) (.tmp 175), none⟩,
    ⟨(some 177), .move (.tmp 176), none⟩,
    ⟨(some 178), .move (.tmp 23), (some (some 177, false))⟩,
    ⟨(some 179), .move (.tmp 5), (some (some 177, false))⟩,
    ⟨(some 180), .binOp .neq 3 (.tmp 178) (.tmp 179) 3, (some (some 177, false))⟩,
    ⟨(some 181), .pick (.tmp 177) (.const (.bool true)) (.tmp 180), none⟩,
    ⟨(some 182), .move (.tmp 181), none⟩,
    ⟨(some 183), .move (.tmp 24), (some (some 182, false))⟩,
    ⟨(some 184), .binOp .gtr 3 (.tmp 183) (.const (.int .i64 4)) 3, (some (some 182, false))⟩,
    ⟨(some 185), .pick (.tmp 182) (.const (.bool true)) (.tmp 184), none⟩] [3, 4, 7, 11, 24, 185])
  (.cond (.tmp 185) (.seq (.reg [⟨(some 2), .assign (.const (.bool false)), none⟩] [2])
  .ret)
  .skip))
  (.seq (.reg [⟨(some 26), .assign (.const (.int .i64 0)), none⟩] [3, 4, 7, 11, 24, 26])
  (.block 0 (.loop laws_FnChanges_l1)))))))
  .skip))
  laws_FnChanges_t10))
/-- slots: [3, 4, 5, 6, 7, 11, 12, 15, 16] -/
def laws_FnChanges_t8 : ACode := (.cut [3, 4, 5, 6, 7, 11, 12, 15, 16] (.seq (.seq (.reg [⟨(some 103), .move (.tmp 3), none⟩,
    ⟨(some 104), .load 27 (.tmp 4), none⟩,
    ⟨(some 105), .call ⟨.value (.func 32), #[(.tmp 103), (.tmp 104)], #[24, 27]⟩, none⟩,
    ⟨(some 102), .move (.tmp 105), none⟩,
    ⟨(some 106), .extract (.tmp 102) 0, none⟩,
    ⟨(some 107), .extract (.tmp 102) 1, none⟩,
    ⟨(some 17), .assign (.tmp 106), none⟩,
    ⟨(some 18), .assign (.tmp 107), none⟩] [3, 4, 5, 6, 7, 11, 12, 15, 16, 17, 18])
  (.seq (.reg [⟨(some 108), .move (.tmp 15), none⟩,
    ⟨(some 109), .move (.tmp 17), none⟩,
    ⟨(some 110), .binOp .neq 4 (.tmp 108) (.tmp 109) 4, none⟩,
    ⟨(some 111), .move (.tmp 110), none⟩,
    ⟨(some 112), .move (.tmp 16), (some (some 111, false))⟩,
    ⟨(some 113), .move (.tmp 18), (some (some 111, false))⟩,
    ⟨(some 114), .binOp .neq 4 (.tmp 112) (.tmp 113) 4, (some (some 111, false))⟩,
    ⟨(some 115), .pick (.tmp 111) (.const (.bool true)) (.tmp 114), none⟩,
    ⟨(some 116), .move (.tmp 115), none⟩,
    ⟨(some 117), .move (.tmp 16), (some (some 116, false))⟩,
    ⟨(some 118), .move (.tmp 12), (some (some 116, false))⟩,
    ⟨(some 119), .binOp .neq 4 (.tmp 117) (.tmp 118) 4, (some (some 116, false))⟩,
    ⟨(some 120), .pick (.tmp 116) (.const (.bool true)) (.tmp 119), none⟩,
    ⟨(some 121), .move (.tmp 120), none⟩,
    ⟨(some 122), .move (.tmp 15), (some (some 121, false))⟩,
    ⟨(some 123), .move (.tmp 7), (some (some 121, false))⟩,
    ⟨(some 124), .move (.tmp 123), (some (some 121, false))⟩,
    ⟨(some 125), .move (.tmp 5), (some (some 124, true))⟩,
    ⟨(some 126), .binOp .eql 3 (.tmp 125) (.const (.int .i64 0)) 3, (some (some 124, true))⟩,
    ⟨(some 127), .pick (.tmp 124) (.tmp 126) (.const (.bool false)), (some (some 121, false))⟩,
    ⟨(some 128), .binOp .neq 4 (.tmp 122) (.tmp 127) 4, (some (some 121, false))⟩,
    ⟨(some 129), .pick (.tmp 121) (.const (.bool true)) (.tmp 128), none⟩] [3, 4, 5, 6, 7, 11, 129])
  (.cond (.tmp 129) (.seq (.reg [⟨(some 2), .assign (.const (.bool false)), none⟩] [2])
  .ret)
  .skip)))
  laws_FnChanges_t9))
/-- slots: [3, 4, 5, 6, 7, 11, 12] -/
def laws_FnChanges_t7 : ACode := (.cut [3, 4, 5, 6, 7, 11, 12] (.seq (.reg [⟨(some 97), .move (.tmp 3), none⟩,
    ⟨(some 98), .load 27 (.tmp 4), none⟩,
    ⟨(some 99), .call ⟨.value (.func 31), #[(.tmp 97), (.tmp 98)], #[24, 27]⟩, none⟩,
    ⟨(some 96), .move (.tmp 99), none⟩,
    ⟨(some 100), .extract (.tmp 96) 0, none⟩,
    ⟨(some 101), .extract (.tmp 96) 1, none⟩,
    ⟨(some 15), .assign (.tmp 100), none⟩,
    ⟨(some 16), .assign (.tmp 101), none⟩] [3, 4, 5, 6, 7, 11, 12, 15, 16])
  laws_FnChanges_t8))
/-- slots: [3, 4, 5, 6, 7, 11, 12] -/
def laws_FnChanges_t6 : ACode := (.cut [3, 4, 5, 6, 7, 11, 12] (.seq (.seq (.reg [⟨(some 75), .move (.tmp 3), none⟩,
    ⟨(some 76), .load 27 (.tmp 4), none⟩,
    ⟨(some 77), .call ⟨.value (.func 30), #[(.tmp 75), (.tmp 76)], #[24, 27]⟩, none⟩,
    ⟨(some 74), .move (.tmp 77), none⟩,
    ⟨(some 78), .extract (.tmp 74) 0, none⟩,
    ⟨(some 79), .extract (.tmp 74) 1, none⟩,
    ⟨(some 13), .assign (.tmp 78), none⟩,
    ⟨(some 14), .assign (.tmp 79), none⟩] [3, 4, 5, 6, 7, 11, 12, 13, 14])
  (.seq (.reg [⟨(some 80), .move (.tmp 12), none⟩,
    ⟨(some 81), .move (.tmp 14), none⟩,
    ⟨(some 82), .binOp .neq 4 (.tmp 80) (.tmp 81) 4, none⟩,
    ⟨(some 83), .move (.tmp 82), none⟩,
    ⟨(some 84), .move (.tmp 11), (some (some 83, false))⟩,
    ⟨(some 85), .move (.tmp 13), (some (some 83, false))⟩,
    ⟨(some 86), .call ⟨.value (.func 16), #[(.tmp 84), (.tmp 85)], #[33, 33]⟩, (some (some 83, false))⟩,
    ⟨(some 87), .unOp .not 4 (.tmp 86), (some (some 83, false))⟩,
    ⟨(some 88), .pick (.tmp 83) (.const (.bool true)) (.tmp 87), none⟩,
    ⟨(some 89), .move (.tmp 88), none⟩,
    ⟨(some 90), .move (.tmp 7), (some (some 89, false))⟩,
    ⟨(some 91), .move (.tmp 11), (some (some 89, false))⟩,
    ⟨(some 92), .call ⟨.builtin .len, #[(.tmp 91)], #[33]⟩, (some (some 89, false))⟩,
    ⟨(some 93), .binOp .gtr 3 (.tmp 92) (.const (.int .i64 0)) 3, (some (some 89, false))⟩,
    ⟨(some 94), .binOp .neq 4 (.tmp 90) (.tmp 93) 4, (some (some 89, false))⟩,
    ⟨(some 95), .pick (.tmp 89) (.const (.bool true)) (.tmp 94), none⟩] [3, 4, 5, 6, 7, 11, 12, 95])
  (.cond (.tmp 95) (.seq (.reg [⟨(some 2), .assign (.const (.bool false)), none⟩] [2])
  .ret)
  .skip)))
  laws_FnChanges_t7))
/-- slots: [3, 4, 5, 6, 7] -/
def laws_FnChanges_t5 : ACode := (.cut [3, 4, 5, 6, 7] (.seq (.reg [⟨(some 69), .move (.tmp 3), none⟩,
    ⟨(some 70), .load 27 (.tmp 4), none⟩,
    ⟨(some 71), .call ⟨.value (.func 29), #[(.tmp 69), (.tmp 70)], #[24, 27]⟩, none⟩,
    ⟨(some 68), .move (.tmp 71), none⟩,
    ⟨(some 72), .extract (.tmp 68) 0, none⟩,
    ⟨(some 73), .extract (.tmp 68) 1, none⟩,
    ⟨(some 11), .assign (.tmp 72), none⟩,
    ⟨(some 12), .assign (.tmp 73), none⟩] [3, 4, 5, 6, 7, 11, 12])
  laws_FnChanges_t6))
/-- slots: [3, 4, 5, 6, 7] -/
def laws_FnChanges_t4 : ACode := (.cut [3, 4, 5, 6, 7] (.seq (.seq (.reg [⟨(some 49), .move (.tmp 3), none⟩,
    ⟨(some 50), .load 27 (.tmp 4), none⟩,
    ⟨(some 51), .call ⟨.value (.func 28), #[(.tmp 49), (.tmp 50)], #[24, 27]⟩, none⟩,
    ⟨(some 48), .move (.tmp 51), none⟩,
    ⟨(some 52), .extract (.tmp 48) 0, none⟩,
    ⟨(some 53), .extract (.tmp 48) 1, none⟩,
    ⟨(some 54), .extract (.tmp 48) 2, none⟩,
    ⟨(some 9), .alloc 27, none⟩,
    ⟨(some 8), .assign (.tmp 52), none⟩,
    ⟨none, .store 27 (.tmp 9) (.tmp 53), none⟩,
    ⟨(some 10), .assign (.tmp 54), none⟩] [3, 4, 5, 6, 7, 8, 9, 10])
  (.seq (.reg [⟨(some 55), .move (.tmp 5), none⟩,
    ⟨(some 56), .move (.tmp 8), none⟩,
    ⟨(some 57), .binOp .neq 3 (.tmp 55) (.tmp 56) 3, none⟩,
    ⟨(some 58), .move (.tmp 57), none⟩,
    ⟨(some 59), .load 27 (.tmp 6), (some (some 58, false))⟩,
    ⟨(some 60), .load 27 (.tmp 9), (some (some 58, false))⟩,
    ⟨(some 61), .binOp .neq 27 (.tmp 59) (.tmp 60) 27, (some (some 58, false))⟩,
    ⟨(some 62), .pick (.tmp 58) (.const (.bool true)) (.tmp 61), none⟩,
    ⟨(some 63), .move (.tmp 62), none⟩,
    ⟨(some 64), .move (.tmp 7), (some (some 63, false))⟩,
    ⟨(some 65), .move (.tmp 10), (some (some 63, false))⟩,
    ⟨(some 66), .binOp .neq 4 (.tmp 64) (.tmp 65) 4, (some (some 63, false))⟩,
    ⟨(some 67), .pick (.tmp 63) (.const (.bool true)) (.tmp 66), none⟩] [3, 4, 5, 6, 7, 67])
  (.cond (.tmp 67) (.seq (.reg [⟨(some 2), .assign (.const (.bool false)), none⟩] [2])
  .ret)
  .skip)))
  laws_FnChanges_t5))
/-- slots: [3, 4] -/
def laws_FnChanges_t3 : ACode := (.cut [3, 4] (.seq (.reg [⟨(some 42), .move (.tmp 3), none⟩,
    ⟨(some 43), .load 27 (.tmp 4), none⟩,
    ⟨(some 44), .call ⟨.value (.func 27), #[(.tmp 42), (.tmp 43)], #[24, 27]⟩, none⟩,
    ⟨(some 41), .move (.tmp 44), none⟩,
    ⟨(some 45), .extract (.tmp 41) 0, none⟩,
    ⟨(some 46), .extract (.tmp 41) 1, none⟩,
    ⟨(some 47), .extract (.tmp 41) 2, none⟩,
    ⟨(some 6), .alloc 27, none⟩,
    ⟨(some 5), .assign (.tmp 45), none⟩,
    ⟨none, .store 27 (.tmp 6) (.tmp 46), none⟩,
    ⟨(some 7), .assign (.tmp 47), none⟩] [3, 4, 5, 6, 7])
  laws_FnChanges_t4))
/-- slots: [0] -/
def laws_FnChanges_t2 : ACode := (.cut [0] (.seq (.reg [⟨(some 37), .move (.tmp 0), none⟩,
    ⟨(some 38), .call ⟨.value (.func 26), #[(.tmp 37)], #[22]⟩, none⟩,
    ⟨(some 36), .move (.tmp 38), none⟩,
    ⟨(some 39), .extract (.tmp 36) 0, none⟩,
    ⟨(some 40), .extract (.tmp 36) 1, none⟩,
    ⟨(some 4), .alloc 27, none⟩,
    ⟨(some 3), .assign (.tmp 39), none⟩,
    ⟨none, .store 27 (.tmp 4) (.tmp 40), none⟩] [3, 4])
  laws_FnChanges_t3))
/-- slots: [0] -/
def laws_FnChanges_t1 : ACode := (.cut [0] (.seq (.seq (.reg [⟨(some 34), .move (.tmp 0), none⟩,
    ⟨(some 35), .call ⟨.value (.func 8), #[(.tmp 34)], #[22]⟩, none⟩] [0, 35])
  (.cond (.tmp 35) (.seq (.reg [⟨(some 2), .assign (.const (.bool true)), none⟩] [2])
  .ret)
  .skip))
  laws_FnChanges_t2))
/-- loop.example/g01062/laws.FnChanges: number 4, params [0] -/
def laws_FnChanges_c : ACode := (.seq (.reg [⟨(some 2), .assign (.const (.bool false)), none⟩] [0])
  laws_FnChanges_t1)
theorem laws_FnChanges_k : fnOk Try.prog (fun _ => false) 4 = some (laws_FnChanges_c.strip, 247, [.tmp 2]) := by kernel_rfl
/-- loop.example/g01062/spec.DrawLeastChange: number 26, params [0] -/
def spec_DrawLeastChange_c : ACode := (.seq (.reg [⟨(some 2), .assign (.const (.slice none 0 0)), none⟩,
    ⟨(some 3), .alloc 27, none⟩] [0, 3])
  (.seq (.reg [⟨(some 4), .move (.tmp 0), none⟩,
    ⟨(some 5), .call ⟨.value (.func 92), #[(.tmp 4)], #[22]⟩, none⟩,
    ⟨(some 6), .extract (.tmp 5) 0, none⟩,
    ⟨(some 7), .extract (.tmp 5) 1, none⟩,
    ⟨(some 2), .assign (.tmp 6), none⟩,
    ⟨none, .store 27 (.tmp 3) (.tmp 7), none⟩] [2, 3])
  .ret))
theorem spec_DrawLeastChange_k : fnOk Try.prog (fun _ => false) 26 = some (spec_DrawLeastChange_c.strip, 8, [.tmp 2, .cell 3 27]) := by kernel_rfl
/-- slots: [0, 3, 4, 5, 6, 43] -/
def __spec_l1Cur__rates_r0 : ACode := (.cut [0, 3, 4, 5, 6, 43] (.cond (.tmp 43) (.regF [⟨(some 47), .fieldAddr 122 (.tmp 6) 1, none⟩,
    ⟨(some 49), .fieldAddr 122 (.tmp 6) 3, none⟩]
    [51, 52, 45, 46, 48, 50, 54, 44, 56] [.load 3 (.tmp 47), .load 3 (.tmp 49)] [] []
    [⟨(some 51), .move (.tmp 0), none⟩,
    ⟨(some 52), .buildSlice 33 3 #[(0, (.const (.int .i64 1))), (1, (.const (.int .i64 1))), (2, (.const (.int .i64 3)))], none⟩,
    ⟨(some 53), .call ⟨.value (.func 88), #[(.tmp 51), (.tmp 52)], #[85, 33]⟩, none⟩,
    ⟨(some 45), .move (.tmp 0), none⟩,
    ⟨(some 46), .move (.tmp 4), none⟩,
    ⟨(some 48), .load 3 (.tmp 47), none⟩,
    ⟨(some 50), .load 3 (.tmp 49), none⟩,
    ⟨(some 54), .binOp .add 3 (.tmp 50) (.tmp 53) 3, none⟩,
    ⟨(some 55), .call ⟨.value (.func 121), #[(.tmp 45), (.tmp 46), (.tmp 48), (.tmp 54)], #[85, 3, 3, 3]⟩, none⟩,
    ⟨(some 44), .move (.tmp 3), none⟩,
    ⟨(some 56), .buildSlice 24 1 #[(0, (.tmp 55))], none⟩,
    ⟨(some 57), .call ⟨.builtin .append, #[(.tmp 44), (.tmp 56)], #[24, 24]⟩, none⟩,
    ⟨(some 3), .assign (.tmp 57), none⟩] [0, 3, 4, 5])
  .skip))
/-- slots: [0, 3, 4, 5] -/
def __spec_l1Cur__rates_r1 : ACode := (.cut [0, 3, 4, 5] (.seq (.reg [⟨(some 31), .move (.tmp 3), none⟩,
    ⟨(some 32), .move (.tmp 3), none⟩,
    ⟨(some 33), .call ⟨.builtin .len, #[(.tmp 32)], #[24]⟩, none⟩,
    ⟨(some 34), .binOp .sub 3 (.tmp 33) (.const (.int .i64 1)) 3, none⟩,
    ⟨(some 35), .indexAddr 24 (.tmp 31) (.tmp 34), none⟩,
    ⟨(some 36), .load 122 (.tmp 35), none⟩,
    ⟨(some 6), .alloc 122, none⟩,
    ⟨none, .store 122 (.tmp 6) (.tmp 36), none⟩] [0, 3, 4, 5, 6])
  (.seq (.reg [⟨(some 37), .move (.tmp 0), none⟩,
    ⟨(some 38), .call ⟨.value (.func 120), #[(.tmp 37), (.const (.int .i64 2))], #[85, 3]⟩, none⟩,
    ⟨(some 39), .move (.tmp 38), none⟩,
    ⟨(some 40), .fieldAddr 122 (.tmp 6) 3, (some (some 39, true))⟩,
    ⟨(some 41), .load 3 (.tmp 40), (some (some 39, true))⟩,
    ⟨(some 42), .binOp .lss 3 (.tmp 41) (.const (.int .i64 30)) 3, (some (some 39, true))⟩,
    ⟨(some 43), .pick (.tmp 39) (.tmp 42) (.const (.bool false)), none⟩] [0, 3, 4, 5, 6, 43])
  __spec_l1Cur__rates_r0)))
/-- slots: [0, 3, 4, 5, 17] -/
def __spec_l1Cur__rates_r2 : ACode := (.cut [0, 3, 4, 5, 17] (.cond (.tmp 17) (.seq (.regF [⟨(some 22), .move (.tmp 5), none⟩]
    [25, 26, 19, 20, 21, 23, 24, 18, 29] [] [] []
    [⟨(some 25), .move (.tmp 0), none⟩,
    ⟨(some 26), .buildSlice 33 3 #[(0, (.const (.int .i64 0))), (1, (.const (.int .i64 0))), (2, (.const (.int .i64 5)))], none⟩,
    ⟨(some 27), .call ⟨.value (.func 88), #[(.tmp 25), (.tmp 26)], #[85, 33]⟩, none⟩,
    ⟨(some 19), .move (.tmp 0), none⟩,
    ⟨(some 20), .move (.tmp 4), none⟩,
    ⟨(some 21), .buildSlice 33 3 #[(0, (.const (.int .i64 20))), (1, (.const (.int .i64 50))), (2, (.const (.int .i64 100)))], none⟩,
    ⟨(some 23), .indexAddr 33 (.tmp 21) (.tmp 22), none⟩,
    ⟨(some 24), .load 3 (.tmp 23), none⟩,
    ⟨(some 28), .call ⟨.value (.func 121), #[(.tmp 19), (.tmp 20), (.tmp 24), (.tmp 27)], #[85, 3, 3, 3]⟩, none⟩,
    ⟨(some 18), .move (.tmp 3), none⟩,
    ⟨(some 29), .buildSlice 24 1 #[(0, (.tmp 28))], none⟩,
    ⟨(some 30), .call ⟨.builtin .append, #[(.tmp 18), (.tmp 29)], #[24, 24]⟩, none⟩,
    ⟨(some 3), .assign (.tmp 30), none⟩] [0, 3, 4, 5])
  __spec_l1Cur__rates_r1)
  .skip))
/-- slots: [0, 3, 4, 5] -/
def __spec_l1Cur__rates_r3 : ACode := (.cut [0, 3, 4, 5] (.reg [⟨(some 14), .move (.tmp 5), none⟩,
    ⟨(some 15), .binOp .add 3 (.tmp 14) (.const (.int .i64 1)) 3, none⟩,
    ⟨(some 5), .assign (.tmp 15), none⟩] [0, 3, 4, 5]))
/-- head: [0, 3, 4, 5] -/
def __spec_l1Cur__rates_l0 : ACode := (.seq (.seq (.reg [⟨(some 12), .move (.tmp 5), none⟩,
    ⟨(some 13), .binOp .lss 3 (.tmp 12) (.const (.int .i64 3)) 3, none⟩] [0, 3, 4, 5, 13])
  (.cond (.tmp 13) .skip
  (.exit 2)))
  (.seq (.block 3 (.seq (.reg [⟨(some 16), .move (.tmp 0), none⟩,
    ⟨(some 17), .call ⟨.value (.func 120), #[(.tmp 16), (.const (.int .i64 2))], #[85, 3]⟩, none⟩] [0, 3, 4, 5, 17])
  __spec_l1Cur__rates_r2))
  __spec_l1Cur__rates_r3))
/-- slots: [0, 3, 4] -/
def __spec_l1Cur__rates_r5 : ACode := (.cut [0, 3, 4] (.reg [⟨(some 10), .move (.tmp 4), none⟩,
    ⟨(some 11), .binOp .add 3 (.tmp 10) (.const (.int .i64 1)) 3, none⟩,
    ⟨(some 4), .assign (.tmp 11), none⟩] [0, 3, 4]))
/-- head: [0, 3, 4] -/
def __spec_l1Cur__rates_l1 : ACode := (.seq (.seq (.reg [⟨(some 8), .move (.tmp 4), none⟩,
    ⟨(some 9), .binOp .lss 3 (.tmp 8) (.const (.int .i64 3)) 3, none⟩] [0, 3, 4, 9])
  (.cond (.tmp 9) .skip
  (.exit 0)))
  (.seq (.block 1 (.seq (.reg [⟨(some 5), .assign (.const (.int .i64 0)), none⟩] [0, 3, 4, 5])
  (.block 2 (.loop __spec_l1Cur__rates_l0))))
  __spec_l1Cur__rates_r5))
/-- slots: [0, 3, 80] -/
def __spec_l1Cur__rates_r7 : ACode := (.cut [0, 3, 80] (.cond (.tmp 80) .skip
  (.exit 5)))
/-- slots: [0, 3] -/
def __spec_l1Cur__rates_r8 : ACode := (.cut [0, 3] (.block 6 (.reg [⟨(some 81), .move (.tmp 3), none⟩,
    ⟨(some 82), .move (.tmp 3), none⟩,
    ⟨(some 83), .call ⟨.builtin .len, #[(.tmp 82)], #[24]⟩, none⟩,
    ⟨(some 84), .binOp .add 3 (.const (.int .i64 10)) (.tmp 83) 3, none⟩,
    ⟨(some 85), .build 122 #[(0, (.const (.int .i64 8))), (1, (.tmp 84)), (3, (.const (.int .i64 7))), (4, (.const (.int .i64 4)))], none⟩,
    ⟨(some 86), .buildSlice 24 1 #[(0, (.tmp 85))], none⟩,
    ⟨(some 87), .call ⟨.builtin .append, #[(.tmp 81), (.tmp 86)], #[24, 24]⟩, none⟩,
    ⟨(some 3), .assign (.tmp 87), none⟩] [0, 3])))
/-- head: [0, 3] -/
def __spec_l1Cur__rates_l2 : ACode := (.seq (.seq (.reg [⟨(some 75), .move (.tmp 3), none⟩,
    ⟨(some 76), .call ⟨.builtin .len, #[(.tmp 75)], #[24]⟩, none⟩,
    ⟨(some 77), .move (.tmp 0), none⟩,
    ⟨(some 78), .call ⟨.value (.func 89), #[(.tmp 77), (.const (.int .i64 2))], #[85, 3]⟩, none⟩,
    ⟨(some 79), .binOp .add 3 (.const (.int .i64 16)) (.tmp 78) 3, none⟩,
    ⟨(some 80), .binOp .lss 3 (.tmp 76) (.tmp 79) 3, none⟩] [0, 3, 80])
  __spec_l1Cur__rates_r7)
  __spec_l1Cur__rates_r8)
/-- slots: [0, 3, 59] -/
def __spec_l1Cur__rates_r10 : ACode := (.cut [0, 3, 59] (.block 4 (.seq (.reg [⟨(some 61), .binOp .eql 3 (.tmp 59) (.const (.int .i64 0)) 3, none⟩,
    ⟨(some 60), .assign (.tmp 61), none⟩] [0, 3, 59, 60])
  (.cond (.tmp 60) (.reg [⟨(some 62), .move (.tmp 3), none⟩,
    ⟨(some 63), .move (.tmp 0), none⟩,
    ⟨(some 64), .move (.tmp 0), none⟩,
    ⟨(some 65), .buildSlice 33 4 #[(0, (.const (.int .i64 (-1)))), (1, (.const (.int .i64 2))), (2, (.const (.int .i64 9))), (3, (.const (.int .i64 10)))], none⟩,
    ⟨(some 66), .call ⟨.value (.func 88), #[(.tmp 64), (.tmp 65)], #[85, 33]⟩, none⟩,
    ⟨(some 67), .move (.tmp 0), none⟩,
    ⟨(some 68), .buildSlice 33 4 #[(0, (.const (.int .i64 0))), (1, (.const (.int .i64 100))), (2, (.const (.int .i64 2000))), (3, (.const (.int .i64 2001)))], none⟩,
    ⟨(some 69), .call ⟨.value (.func 88), #[(.tmp 67), (.tmp 68)], #[85, 33]⟩, none⟩,
    ⟨(some 70), .call ⟨.value (.func 121), #[(.tmp 63), (.tmp 66), (.tmp 69), (.const (.int .i64 3))], #[85, 3, 3, 3]⟩, none⟩,
    ⟨(some 71), .buildSlice 24 1 #[(0, (.tmp 70))], none⟩,
    ⟨(some 72), .call ⟨.builtin .append, #[(.tmp 62), (.tmp 71)], #[24, 24]⟩, none⟩,
    ⟨(some 3), .assign (.tmp 72), none⟩] [3])
  (.seq (.reg [⟨(some 74), .binOp .eql 3 (.tmp 59) (.const (.int .i64 1)) 3, none⟩,
    ⟨(some 73), .assign (.tmp 74), none⟩] [0, 3, 73])
  (.cond (.tmp 73) (.block 5 (.loop __spec_l1Cur__rates_l2))
  .skip))))))
/-- slots: [3] -/
def __spec_l1Cur__rates_r11 : ACode := (.cut [3] (.seq (.reg [⟨(some 88), .move (.tmp 3), none⟩,
    ⟨(some 2), .assign (.tmp 88), none⟩] [2])
  .ret))
/-- slots: [0, 3] -/
def __spec_l1Cur__rates_r12 : ACode := (.cut [0, 3] (.seq (.seq (.reg [⟨(some 58), .move (.tmp 0), none⟩,
    ⟨(some 59), .call ⟨.value (.func 89), #[(.tmp 58), (.const (.int .i64 32))], #[85, 3]⟩, none⟩] [0, 3, 59])
  __spec_l1Cur__rates_r10)
  __spec_l1Cur__rates_r11))
/-- (*loop.example/g01062/spec.l1Cur).rates: number 67, params [0] -/
def __spec_l1Cur__rates_c : ACode := (.seq (.reg [⟨(some 2), .assign (.const (.slice none 0 0)), none⟩] [0])
  (.seq (.reg [⟨(some 7), .buildSlice 24 0 #[], none⟩,
    ⟨(some 3), .assign (.tmp 7), none⟩] [0, 3])
  (.seq (.seq (.reg [⟨(some 4), .assign (.const (.int .i64 0)), none⟩] [0, 3, 4])
  (.block 0 (.loop __spec_l1Cur__rates_l1)))
  __spec_l1Cur__rates_r12)))
theorem __spec_l1Cur__rates_k : fnOk Try.prog (fun i => i == 9 || i == 12) 67 = some (__spec_l1Cur__rates_c.strip, 89, [.tmp 2]) := by kernel_rfl
/-- slots: [0, 4, 6, 42] -/
def __spec_l1Cur__cover_r0 : ACode := (.cut [0, 4, 6, 42] (.cond (.tmp 42) (.reg [⟨(some 43), .fieldAddr 27 (.tmp 6) 5, none⟩,
    ⟨(some 44), .load 3 (.tmp 43), none⟩,
    ⟨(some 45), .binOp .add 3 (.tmp 44) (.const (.int .i64 1)) 3, none⟩,
    ⟨(some 46), .binOp .rem 3 (.tmp 45) (.const (.int .i64 4)) 3, none⟩,
    ⟨(some 47), .fieldAddr 27 (.tmp 6) 6, none⟩,
    ⟨none, .store 3 (.tmp 47) (.tmp 46), none⟩] [0, 4, 6])
  .skip))
/-- slots: [0, 4, 6, 49] -/
def __spec_l1Cur__cover_r1 : ACode := (.cut [0, 4, 6, 49] (.block 0 (.seq (.reg [⟨(some 51), .binOp .eql 3 (.tmp 49) (.const (.int .i64 0)) 3, none⟩,
    ⟨(some 50), .assign (.tmp 51), none⟩] [0, 4, 6, 49, 50])
  (.cond (.tmp 50) (.reg [⟨(some 52), .move (.tmp 0), none⟩,
    ⟨(some 53), .buildSlice 33 2 #[(0, (.const (.int .i64 0))), (1, (.const (.int .i64 10000)))], none⟩,
    ⟨(some 54), .call ⟨.value (.func 88), #[(.tmp 52), (.tmp 53)], #[85, 33]⟩, none⟩,
    ⟨(some 55), .fieldAddr 27 (.tmp 6) 4, none⟩,
    ⟨none, .store 3 (.tmp 55) (.tmp 54), none⟩] [4, 6])
  (.seq (.reg [⟨(some 57), .binOp .eql 3 (.tmp 49) (.const (.int .i64 1)) 3, none⟩,
    ⟨(some 56), .assign (.tmp 57), none⟩] [0, 4, 6, 56])
  (.cond (.tmp 56) (.reg [⟨(some 58), .move (.tmp 0), none⟩,
    ⟨(some 59), .buildSlice 33 3 #[(0, (.const (.int .i64 (-1)))), (1, (.const (.int .i64 9999))), (2, (.const (.int .i64 10000)))], none⟩,
    ⟨(some 60), .call ⟨.value (.func 88), #[(.tmp 58), (.tmp 59)], #[85, 33]⟩, none⟩,
    ⟨(some 61), .fieldAddr 27 (.tmp 6) 8, none⟩,
    ⟨none, .store 3 (.tmp 61) (.tmp 60), none⟩] [4, 6])
  .skip))))))
/-- slots: [4, 6] -/
def __spec_l1Cur__cover_r2 : ACode := (.cut [4, 6] (.seq (.reg [⟨(some 62), .load 27 (.tmp 6), none⟩,
    ⟨none, .store 27 (.tmp 4) (.tmp 62), none⟩] [4])
  .ret))
/-- slots: [0, 4, 6] -/
def __spec_l1Cur__cover_r3 : ACode := (.cut [0, 4, 6] (.seq (.seq (.reg [⟨(some 48), .move (.tmp 0), none⟩,
    ⟨(some 49), .call ⟨.value (.func 89), #[(.tmp 48), (.const (.int .i64 64))], #[85, 3]⟩, none⟩] [0, 4, 6, 49])
  __spec_l1Cur__cover_r1)
  __spec_l1Cur__cover_r2))
/-- slots: [0, 4, 6] -/
def __spec_l1Cur__cover_r4 : ACode := (.cut [0, 4, 6] (.seq (.seq (.reg [⟨(some 33), .fieldAddr 27 (.tmp 6) 5, none⟩,
    ⟨(some 34), .load 3 (.tmp 33), none⟩,
    ⟨(some 35), .fieldAddr 27 (.tmp 6) 6, none⟩,
    ⟨(some 36), .load 3 (.tmp 35), none⟩,
    ⟨(some 37), .binOp .eql 3 (.tmp 34) (.tmp 36) 3, none⟩,
    ⟨(some 38), .move (.tmp 37), none⟩,
    ⟨(some 39), .move (.tmp 0), (some (some 38, true))⟩,
    ⟨(some 40), .call ⟨.value (.func 120), #[(.tmp 39), (.const (.int .i64 16))], #[85, 3]⟩, (some (some 38, true))⟩,
    ⟨(some 41), .unOp .not 4 (.tmp 40), (some (some 38, true))⟩,
    ⟨(some 42), .pick (.tmp 38) (.tmp 41) (.const (.bool false)), none⟩] [0, 4, 6, 42])
  __spec_l1Cur__cover_r0)
  __spec_l1Cur__cover_r3))
/-- slots: [0, 1, 4, 5] -/
def __spec_l1Cur__cover_r5 : ACode := (.cut [0, 1, 4, 5] (.seq (.reg [⟨(some 10), .move (.tmp 1), none⟩,
    ⟨(some 11), .move (.tmp 0), none⟩,
    ⟨(some 12), .buildSlice 33 6 #[(0, (.const (.int .i64 0))), (1, (.const (.int .i64 4))), (2, (.const (.int .i64 5))), (3, (.const (.int .i64 9))), (4, (.const (.int .i64 10))), (5, (.const (.int .i64 14)))], none⟩,
    ⟨(some 13), .call ⟨.value (.func 88), #[(.tmp 11), (.tmp 12)], #[85, 33]⟩, none⟩,
    ⟨(some 14), .move (.tmp 0), none⟩,
    ⟨(some 15), .call ⟨.value (.func 89), #[(.tmp 14), (.const (.int .i64 3))], #[85, 3]⟩, none⟩,
    ⟨(some 16), .move (.tmp 0), none⟩,
    ⟨(some 17), .buildSlice 33 6 #[(0, (.const (.int .i64 1))), (1, (.const (.int .i64 20))), (2, (.const (.int .i64 21))), (3, (.const (.int .i64 50))), (4, (.const (.int .i64 100))), (5, (.const (.int .i64 101)))], none⟩,
    ⟨(some 18), .call ⟨.value (.func 88), #[(.tmp 16), (.tmp 17)], #[85, 33]⟩, none⟩,
    ⟨(some 19), .move (.tmp 0), none⟩,
    ⟨(some 20), .buildSlice 33 8 #[(0, (.const (.int .i64 3))), (1, (.const (.int .i64 4))), (2, (.const (.int .i64 5))), (3, (.const (.int .i64 5))), (4, (.const (.int .i64 10))), (5, (.const (.int .i64 12))), (6, (.const (.int .i64 25))), (7, (.const (.int .i64 60)))], none⟩,
    ⟨(some 21), .call ⟨.value (.func 88), #[(.tmp 19), (.tmp 20)], #[85, 33]⟩, none⟩,
    ⟨(some 22), .move (.tmp 0), none⟩,
    ⟨(some 23), .call ⟨.value (.func 89), #[(.tmp 22), (.const (.int .i64 4))], #[85, 3]⟩, none⟩,
    ⟨(some 24), .move (.tmp 0), none⟩,
    ⟨(some 25), .call ⟨.value (.func 89), #[(.tmp 24), (.const (.int .i64 4))], #[85, 3]⟩, none⟩,
    ⟨(some 26), .move (.tmp 5), none⟩,
    ⟨(some 27), .move (.tmp 5), none⟩,
    ⟨(some 28), .move (.tmp 0), none⟩,
    ⟨(some 29), .buildSlice 33 6 #[(0, (.const (.int .i64 0))), (1, (.const (.int .i64 10))), (2, (.const (.int .i64 30))), (3, (.const (.int .i64 60))), (4, (.const (.int .i64 90))), (5, (.const (.int .i64 900)))], none⟩,
    ⟨(some 30), .call ⟨.value (.func 88), #[(.tmp 28), (.tmp 29)], #[85, 33]⟩, none⟩,
    ⟨(some 31), .binOp .add 3 (.tmp 27) (.tmp 30) 3, none⟩,
    ⟨(some 32), .build 27 #[(0, (.tmp 10)), (1, (.tmp 13)), (2, (.tmp 15)), (3, (.tmp 18)), (4, (.tmp 21)), (5, (.tmp 23)), (6, (.tmp 25)), (7, (.tmp 26)), (8, (.tmp 31))], none⟩,
    ⟨(some 6), .alloc 27, none⟩,
    ⟨none, .store 27 (.tmp 6) (.tmp 32), none⟩] [0, 4, 6])
  __spec_l1Cur__cover_r4))
/-- (*loop.example/g01062/spec.l1Cur).cover: number 69, params [0, 1] -/
def __spec_l1Cur__cover_c : ACode := (.seq (.reg [⟨(some 4), .alloc 27, none⟩] [0, 1, 4])
  (.seq (.reg [⟨(some 7), .move (.tmp 0), none⟩,
    ⟨(some 8), .buildSlice 33 5 #[(0, (.const (.int .i64 0))), (1, (.const (.int .i64 0))), (2, (.const (.int .i64 5))), (3, (.const (.int .i64 10))), (4, (.const (.int .i64 11)))], none⟩,
    ⟨(some 9), .call ⟨.value (.func 88), #[(.tmp 7), (.tmp 8)], #[85, 33]⟩, none⟩,
    ⟨(some 5), .assign (.tmp 9), none⟩] [0, 1, 4, 5])
  __spec_l1Cur__cover_r5))
theorem __spec_l1Cur__cover_k : fnOk Try.prog (fun _ => false) 69 = some (__spec_l1Cur__cover_c.strip, 63, [.cell 4 27]) := by kernel_rfl
/-- (*loop.example/g01062/spec.l1Cur).among: number 88, params [0, 1] -/
def __spec_l1Cur__among_c : ACode := (.seq (.reg [⟨(some 4), .assign (.const (.int .i64 0)), none⟩] [0, 1])
  (.seq (.reg [⟨(some 5), .move (.tmp 1), none⟩,
    ⟨(some 6), .move (.tmp 0), none⟩,
    ⟨(some 7), .move (.tmp 1), none⟩,
    ⟨(some 8), .call ⟨.builtin .len, #[(.tmp 7)], #[33]⟩, none⟩,
    ⟨(some 9), .call ⟨.value (.func 89), #[(.tmp 6), (.tmp 8)], #[85, 3]⟩, none⟩,
    ⟨(some 10), .indexAddr 33 (.tmp 5) (.tmp 9), none⟩,
    ⟨(some 11), .load 3 (.tmp 10), none⟩,
    ⟨(some 4), .assign (.tmp 11), none⟩] [4])
  .ret))
theorem __spec_l1Cur__among_k : fnOk Try.prog (fun _ => false) 88 = some (__spec_l1Cur__among_c.strip, 12, [.tmp 4]) := by kernel_rfl
/-- (*loop.example/g01062/spec.l1Cur).pick: number 89, params [0, 1] -/
def __spec_l1Cur__pick_c : ACode := (.seq (.reg [⟨(some 4), .assign (.const (.int .i64 0)), none⟩] [0, 1])
  (.seq (.seq (.reg [⟨(some 6), .move (.tmp 1), none⟩,
    ⟨(some 7), .binOp .leq 3 (.tmp 6) (.const (.int .i64 1)) 3, none⟩] [0, 1, 7])
  (.cond (.tmp 7) (.seq (.reg [⟨(some 4), .assign (.const (.int .i64 0)), none⟩] [4])
  .ret)
  .skip))
  (.seq (.reg [⟨(some 8), .move (.tmp 0), none⟩,
    ⟨(some 9), .call ⟨.value (.func 144), #[(.tmp 8)], #[85]⟩, none⟩,
    ⟨(some 5), .assign (.tmp 9), none⟩] [0, 1, 5])
  (.seq (.seq (.reg [⟨(some 10), .move (.tmp 1), none⟩,
    ⟨(some 11), .binOp .gtr 3 (.tmp 10) (.const (.int .i64 200)) 3, none⟩] [0, 1, 5, 11])
  (.cond (.tmp 11) (.reg [⟨(some 12), .move (.tmp 5), none⟩,
    ⟨(some 13), .binOp .mul 3 (.tmp 12) (.const (.int .i64 256)) 3, none⟩,
    ⟨(some 14), .move (.tmp 0), none⟩,
    ⟨(some 15), .call ⟨.value (.func 144), #[(.tmp 14)], #[85]⟩, none⟩,
    ⟨(some 16), .binOp .add 3 (.tmp 13) (.tmp 15) 3, none⟩,
    ⟨(some 5), .assign (.tmp 16), none⟩] [1, 5])
  .skip))
  (.seq (.reg [⟨(some 17), .move (.tmp 5), none⟩,
    ⟨(some 18), .move (.tmp 1), none⟩,
    ⟨(some 19), .binOp .rem 3 (.tmp 17) (.tmp 18) 3, none⟩,
    ⟨(some 4), .assign (.tmp 19), none⟩] [4])
  .ret)))))
theorem __spec_l1Cur__pick_k : fnOk Try.prog (fun _ => false) 89 = some (__spec_l1Cur__pick_c.strip, 20, [.tmp 4]) := by kernel_rfl
/-- loop.example/g01062/spec.DrawIsExplained: number 92, params [0] -/
def spec_DrawIsExplained_c : ACode := (.seq (.reg [⟨(some 2), .assign (.const (.slice none 0 0)), none⟩,
    ⟨(some 3), .alloc 27, none⟩] [0, 3])
  (.seq (.reg [⟨(some 7), .move (.tmp 0), none⟩,
    ⟨(some 8), .build 88 #[(0, (.tmp 7))], none⟩,
    ⟨(some 9), .box 88 (.tmp 8), none⟩,
    ⟨(some 4), .assign (.tmp 9), none⟩] [3, 4])
  (.seq (.reg [⟨(some 11), .move (.tmp 4), none⟩,
    ⟨(some 12), .call ⟨.value (.func 117), #[(.tmp 11)], #[85]⟩, none⟩,
    ⟨(some 10), .move (.tmp 12), none⟩,
    ⟨(some 13), .extract (.tmp 10) 0, none⟩,
    ⟨(some 14), .extract (.tmp 10) 1, none⟩,
    ⟨(some 6), .alloc 27, none⟩,
    ⟨(some 5), .assign (.tmp 13), none⟩,
    ⟨none, .store 27 (.tmp 6) (.tmp 14), none⟩] [3, 5, 6])
  (.seq (.regT [⟨(some 15), .move (.tmp 5), none⟩,
    ⟨(some 16), .load 27 (.tmp 6), none⟩,
    ⟨(some 2), .assign (.tmp 15), none⟩]
    [⟨none, .store 27 (.tmp 3) (.tmp 16), none⟩] [2, 3])
  .ret))))
theorem spec_DrawIsExplained_k : fnOk Try.prog (fun _ => false) 92 = some (spec_DrawIsExplained_c.strip, 17, [.tmp 2, .cell 3 27]) := by kernel_rfl
/-- slots: [3, 4, 5, 6, 24] -/
def __spec_l1Cur__explained_r0 : ACode := (.cut [3, 4, 5, 6, 24] (.cond (.tmp 24) (.reg [⟨(some 25), .move (.tmp 6), none⟩,
    ⟨(some 26), .fieldAddr 27 (.tmp 5) 4, none⟩,
    ⟨none, .store 3 (.tmp 26) (.tmp 25), none⟩] [3, 4, 5])
  .skip))
/-- slots: [0, 3, 4, 5, 6] -/
def __spec_l1Cur__explained_r1 : ACode := (.cut [0, 3, 4, 5, 6] (.seq (.reg [⟨(some 19), .move (.tmp 6), none⟩,
    ⟨(some 20), .binOp .gtr 3 (.tmp 19) (.const (.int .i64 0)) 3, none⟩,
    ⟨(some 21), .move (.tmp 20), none⟩,
    ⟨(some 22), .move (.tmp 0), (some (some 21, true))⟩,
    ⟨(some 23), .call ⟨.value (.func 120), #[(.tmp 22), (.const (.int .i64 3))], #[85, 3]⟩, (some (some 21, true))⟩,
    ⟨(some 24), .pick (.tmp 21) (.tmp 23) (.const (.bool false)), none⟩] [3, 4, 5, 6, 24])
  __spec_l1Cur__explained_r0))
/-- slots: [3, 4, 5] -/
def __spec_l1Cur__explained_r2 : ACode := (.cut [3, 4, 5] (.seq (.regT [⟨(some 27), .move (.tmp 4), none⟩,
    ⟨(some 28), .load 27 (.tmp 5), none⟩,
    ⟨(some 2), .assign (.tmp 27), none⟩]
    [⟨none, .store 27 (.tmp 3) (.tmp 28), none⟩] [2, 3])
  .ret))
/-- slots: [0, 3, 4, 5] -/
def __spec_l1Cur__explained_r3 : ACode := (.cut [0, 3, 4, 5] (.seq (.seq (.reg [⟨(some 11), .move (.tmp 4), none⟩,
    ⟨(some 12), .fieldAddr 27 (.tmp 5) 1, none⟩,
    ⟨(some 13), .load 3 (.tmp 12), none⟩,
    ⟨(some 14), .fieldAddr 27 (.tmp 5) 2, none⟩,
    ⟨(some 15), .load 3 (.tmp 14), none⟩,
    ⟨(some 16), .fieldAddr 27 (.tmp 5) 3, none⟩,
    ⟨(some 17), .load 3 (.tmp 16), none⟩,
    ⟨(some 18), .call ⟨.value (.func 79), #[(.tmp 11), (.tmp 13), (.tmp 15), (.tmp 17)], #[24, 3, 3, 3]⟩, none⟩,
    ⟨(some 6), .assign (.tmp 18), none⟩] [0, 3, 4, 5, 6])
  __spec_l1Cur__explained_r1)
  __spec_l1Cur__explained_r2))
/-- (*loop.example/g01062/spec.l1Cur).explained: number 117, params [0] -/
def __spec_l1Cur__explained_c : ACode := (.seq (.reg [⟨(some 2), .assign (.const (.slice none 0 0)), none⟩,
    ⟨(some 3), .alloc 27, none⟩] [0, 3])
  (.seq (.reg [⟨(some 7), .move (.tmp 0), none⟩,
    ⟨(some 8), .call ⟨.value (.func 67), #[(.tmp 7)], #[85]⟩, none⟩,
    ⟨(some 9), .move (.tmp 0), none⟩,
    ⟨(some 10), .call ⟨.value (.func 69), #[(.tmp 9), (.const (.int .i64 7))], #[85, 3]⟩, none⟩,
    ⟨(some 5), .alloc 27, none⟩,
    ⟨(some 4), .assign (.tmp 8), none⟩,
    ⟨none, .store 27 (.tmp 5) (.tmp 10), none⟩] [0, 3, 4, 5])
  __spec_l1Cur__explained_r3))
theorem __spec_l1Cur__explained_k : fnOk Try.prog (fun _ => false) 117 = some (__spec_l1Cur__explained_c.strip, 29, [.tmp 2, .cell 3 27]) := by kernel_rfl
/-- (*loop.example/g01062/spec.l1Cur).one: number 120, params [0, 1] -/
def __spec_l1Cur__one_c : ACode := (.seq (.reg [⟨(some 4), .assign (.const (.bool false)), none⟩] [0, 1])
  (.seq (.reg [⟨(some 5), .move (.tmp 0), none⟩,
    ⟨(some 6), .move (.tmp 1), none⟩,
    ⟨(some 7), .call ⟨.value (.func 89), #[(.tmp 5), (.tmp 6)], #[85, 3]⟩, none⟩,
    ⟨(some 8), .binOp .eql 3 (.tmp 7) (.const (.int .i64 0)) 3, none⟩,
    ⟨(some 4), .assign (.tmp 8), none⟩] [4])
  .ret))
theorem __spec_l1Cur__one_k : fnOk Try.prog (fun _ => false) 120 = some (__spec_l1Cur__one_c.strip, 9, [.tmp 4]) := by kernel_rfl
/-- (*loop.example/g01062/spec.l1Cur).rate: number 121, params [0, 1, 2, 3] -/
def __spec_l1Cur__rate_c : ACode := (.seq (.reg [⟨(some 8), .alloc 122, none⟩] [0, 1, 2, 3, 8])
  (.seq (.reg [⟨(some 10), .move (.tmp 1), none⟩,
    ⟨(some 11), .move (.tmp 2), none⟩,
    ⟨(some 12), .move (.tmp 3), none⟩,
    ⟨(some 13), .move (.tmp 3), none⟩,
    ⟨(some 14), .move (.tmp 0), none⟩,
    ⟨(some 15), .buildSlice 33 4 #[(0, (.const (.int .i64 5))), (1, (.const (.int .i64 9))), (2, (.const (.int .i64 9))), (3, (.const (.int .i64 19)))], none⟩,
    ⟨(some 16), .call ⟨.value (.func 88), #[(.tmp 14), (.tmp 15)], #[85, 33]⟩, none⟩,
    ⟨(some 17), .binOp .add 3 (.tmp 13) (.tmp 16) 3, none⟩,
    ⟨(some 18), .move (.tmp 0), none⟩,
    ⟨(some 19), .buildSlice 33 7 #[(0, (.const (.int .i64 3))), (1, (.const (.int .i64 5))), (2, (.const (.int .i64 5))), (3, (.const (.int .i64 10))), (4, (.const (.int .i64 12))), (5, (.const (.int .i64 25))), (6, (.const (.int .i64 9999)))], none⟩,
    ⟨(some 20), .call ⟨.value (.func 88), #[(.tmp 18), (.tmp 19)], #[85, 33]⟩, none⟩,
    ⟨(some 21), .build 122 #[(0, (.tmp 10)), (1, (.tmp 11)), (2, (.tmp 12)), (3, (.tmp 17)), (4, (.tmp 20))], none⟩,
    ⟨(some 9), .alloc 122, none⟩,
    ⟨none, .store 122 (.tmp 9) (.tmp 21), none⟩] [0, 8, 9])
  (.seq (.seq (.reg [⟨(some 22), .move (.tmp 0), none⟩,
    ⟨(some 23), .call ⟨.value (.func 89), #[(.tmp 22), (.const (.int .i64 64))], #[85, 3]⟩, none⟩] [0, 8, 9, 23])
  (.block 0 (.seq (.reg [⟨(some 25), .binOp .eql 3 (.tmp 23) (.const (.int .i64 0)) 3, none⟩,
    ⟨(some 24), .assign (.tmp 25), none⟩] [0, 8, 9, 23, 24])
  (.cond (.tmp 24) (.reg [⟨(some 26), .move (.tmp 0), none⟩,
    ⟨(some 27), .fieldAddr 122 (.tmp 9) 2, none⟩,
    ⟨(some 28), .load 3 (.tmp 27), none⟩,
    ⟨(some 29), .binOp .sub 3 (.tmp 28) (.const (.int .i64 1)) 3, none⟩,
    ⟨(some 30), .buildSlice 33 3 #[(0, (.tmp 29)), (1, (.const (.int .i64 4000))), (2, (.const (.int .i64 4001)))], none⟩,
    ⟨(some 31), .call ⟨.value (.func 88), #[(.tmp 26), (.tmp 30)], #[85, 33]⟩, none⟩,
    ⟨(some 32), .fieldAddr 122 (.tmp 9) 3, none⟩,
    ⟨none, .store 3 (.tmp 32) (.tmp 31), none⟩] [8, 9])
  (.seq (.reg [⟨(some 34), .binOp .eql 3 (.tmp 23) (.const (.int .i64 1)) 3, none⟩,
    ⟨(some 33), .assign (.tmp 34), none⟩] [0, 8, 9, 33])
  (.cond (.tmp 33) (.reg [⟨(some 35), .move (.tmp 0), none⟩,
    ⟨(some 36), .buildSlice 33 2 #[(0, (.const (.int .i64 0))), (1, (.const (.int .i64 10000)))], none⟩,
    ⟨(some 37), .call ⟨.value (.func 88), #[(.tmp 35), (.tmp 36)], #[85, 33]⟩, none⟩,
    ⟨(some 38), .fieldAddr 122 (.tmp 9) 4, none⟩,
    ⟨none, .store 3 (.tmp 38) (.tmp 37), none⟩] [8, 9])
  .skip))))))
  (.seq (.reg [⟨(some 39), .load 122 (.tmp 9), none⟩,
    ⟨none, .store 122 (.tmp 8) (.tmp 39), none⟩] [8])
  .ret))))
theorem __spec_l1Cur__rate_k : fnOk Try.prog (fun _ => false) 121 = some (__spec_l1Cur__rate_c.strip, 40, [.cell 8 122]) := by kernel_rfl
/-- (*loop.example/g01062/spec.l1Cur).next: number 144, params [0] -/
def __spec_l1Cur__next_c : ACode := (.seq (.reg [⟨(some 2), .assign (.const (.int .i64 0)), none⟩] [0])
  (.seq (.reg [⟨(some 3), .assign (.const (.int .i64 0)), none⟩] [0, 3])
  (.seq (.seq (.regQ [⟨(some 4), .move (.tmp 0), none⟩,
    ⟨(some 5), .nilCheck (.tmp 4), none⟩,
    ⟨(some 6), .fieldAddr 88 (.tmp 5) 1, none⟩,
    ⟨(some 7), .load 3 (.tmp 6), none⟩,
    ⟨(some 8), .move (.tmp 0), none⟩,
    ⟨(some 9), .nilCheck (.tmp 8), none⟩,
    ⟨(some 10), .fieldAddr 88 (.tmp 9) 0, none⟩,
    ⟨(some 11), .load 22 (.tmp 10), none⟩,
    ⟨(some 12), .call ⟨.builtin .len, #[(.tmp 11)], #[22]⟩, none⟩,
    ⟨(some 13), .binOp .lss 3 (.tmp 7) (.tmp 12) 3, none⟩] [0, 3, 13])
  (.cond (.tmp 13) (.regQ [⟨(some 14), .move (.tmp 0), none⟩,
    ⟨(some 15), .nilCheck (.tmp 14), none⟩,
    ⟨(some 16), .fieldAddr 88 (.tmp 15) 0, none⟩,
    ⟨(some 17), .load 22 (.tmp 16), none⟩,
    ⟨(some 18), .move (.tmp 0), none⟩,
    ⟨(some 19), .nilCheck (.tmp 18), none⟩,
    ⟨(some 20), .fieldAddr 88 (.tmp 19) 1, none⟩,
    ⟨(some 21), .load 3 (.tmp 20), none⟩,
    ⟨(some 22), .indexAddr 22 (.tmp 17) (.tmp 21), none⟩,
    ⟨(some 23), .load 5 (.tmp 22), none⟩,
    ⟨(some 24), .convert 5 3 (.tmp 23), none⟩,
    ⟨(some 3), .assign (.tmp 24), none⟩] [0, 3])
  .skip))
  (.seq (.reg [⟨(some 25), .move (.tmp 0), none⟩,
    ⟨(some 26), .nilCheck (.tmp 25), none⟩,
    ⟨(some 27), .fieldAddr 88 (.tmp 26) 1, none⟩,
    ⟨(some 28), .load 3 (.tmp 27), none⟩,
    ⟨(some 29), .binOp .add 3 (.tmp 28) (.const (.int .i64 1)) 3, none⟩,
    ⟨(some 30), .nilCheck (.tmp 25), none⟩,
    ⟨(some 31), .fieldAddr 88 (.tmp 30) 1, none⟩,
    ⟨none, .store 3 (.tmp 31) (.tmp 29), none⟩] [0, 3])
  (.seq (.reg [⟨(some 32), .move (.tmp 0), none⟩,
    ⟨(some 33), .move (.tmp 0), none⟩,
    ⟨(some 34), .nilCheck (.tmp 33), none⟩,
    ⟨(some 35), .fieldAddr 88 (.tmp 34) 2, none⟩,
    ⟨(some 36), .load 86 (.tmp 35), none⟩,
    ⟨(some 37), .binOp .mul 86 (.tmp 36) (.const (.int .u64 6364136223846793005)) 86, none⟩,
    ⟨(some 38), .move (.tmp 3), none⟩,
    ⟨(some 39), .convert 3 86 (.tmp 38), none⟩,
    ⟨(some 40), .binOp .add 86 (.tmp 37) (.tmp 39) 86, none⟩,
    ⟨(some 41), .binOp .add 86 (.tmp 40) (.const (.int .u64 381907)) 86, none⟩,
    ⟨(some 42), .nilCheck (.tmp 32), none⟩,
    ⟨(some 43), .fieldAddr 88 (.tmp 42) 2, none⟩,
    ⟨none, .store 86 (.tmp 43) (.tmp 41), none⟩] [0, 3])
  (.seq (.seq (.regQ [⟨(some 44), .move (.tmp 0), none⟩,
    ⟨(some 45), .nilCheck (.tmp 44), none⟩,
    ⟨(some 46), .fieldAddr 88 (.tmp 45) 1, none⟩,
    ⟨(some 47), .load 3 (.tmp 46), none⟩,
    ⟨(some 48), .move (.tmp 0), none⟩,
    ⟨(some 49), .nilCheck (.tmp 48), none⟩,
    ⟨(some 50), .fieldAddr 88 (.tmp 49) 0, none⟩,
    ⟨(some 51), .load 22 (.tmp 50), none⟩,
    ⟨(some 52), .call ⟨.builtin .len, #[(.tmp 51)], #[22]⟩, none⟩,
    ⟨(some 53), .binOp .leq 3 (.tmp 47) (.tmp 52) 3, none⟩] [0, 3, 53])
  (.cond (.tmp 53) (.seq (.reg [⟨(some 54), .move (.tmp 3), none⟩,
    ⟨(some 2), .assign (.tmp 54), none⟩] [2])
  .ret)
  .skip))
  (.seq (.reg [⟨(some 55), .move (.tmp 0), none⟩,
    ⟨(some 56), .nilCheck (.tmp 55), none⟩,
    ⟨(some 57), .fieldAddr 88 (.tmp 56) 2, none⟩,
    ⟨(some 58), .load 86 (.tmp 57), none⟩,
    ⟨(some 59), .binOp .shr 86 (.tmp 58) (.const (.int .u64 40)) 141, none⟩,
    ⟨(some 60), .binOp .and 86 (.tmp 59) (.const (.int .u64 255)) 86, none⟩,
    ⟨(some 61), .convert 86 3 (.tmp 60), none⟩,
    ⟨(some 2), .assign (.tmp 61), none⟩] [2])
  .ret)))))))
theorem __spec_l1Cur__next_k : fnOk Try.prog (fun _ => false) 144 = some (__spec_l1Cur__next_c.strip, 62, [.tmp 2]) := by kernel_rfl
end Go.Proofs.Ytjiffkjeijfilaa

