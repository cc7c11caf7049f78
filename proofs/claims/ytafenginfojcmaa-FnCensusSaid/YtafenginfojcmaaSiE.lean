/- Printed by a program of ours: the functions' abstract code and facts on their types. -/
import Derived.Test.YtafenginfojcmaaSiC
set_option maxRecDepth 8000
namespace Go.Proofs.Ytafenginfojcmaa
open Go Go.RowKit
@[simp] theorem dk_55 : dK Try.prog 55 = some (.int .u64) := by kernel_rfl
@[simp] theorem ty_55 : tyK Try.prog 55 = some .cell := by kernel_rfl
@[simp] theorem zero_55 : zeroK Try.prog 55 = some [.int .u64 0] := by kernel_rfl
@[simp] theorem ty_57 : tyK Try.prog 57 = some (.obj 3) := by kernel_rfl
@[simp] theorem fld_57_0 : fldK Try.prog 57 0 = some 0 := by kernel_rfl
@[simp] theorem fld_57_1 : fldK Try.prog 57 1 = some 1 := by kernel_rfl
@[simp] theorem fld_57_2 : fldK Try.prog 57 2 = some 2 := by kernel_rfl
@[simp] theorem pl_57 : plK Try.prog 57 = some (some [(0, 1), (1, 1), (2, 1)]) := by kernel_rfl
@[simp] theorem zero_57 : zeroK Try.prog 57 = some [.nils, .int .i64 0, .int .u64 0] := by kernel_rfl
@[simp] theorem sl_88 : slK Try.prog 88 = some (9, 1, 16) := by kernel_rfl
@[simp] theorem dk_88 : dK Try.prog 88 = some .slc := by kernel_rfl
@[simp] theorem ty_88 : tyK Try.prog 88 = some .cell := by kernel_rfl
@[simp] theorem zero_88 : zeroK Try.prog 88 = some [.nils] := by kernel_rfl
/-- head: [0, 3, 4, 5, 6, 10, 16, 17, 18, 19] -/
def laws_FnCensus_l0 : ACode := (.seq (.seq (.reg [⟨(some 109), .move (.tmp 19), none⟩,
    ⟨(some 110), .move (.tmp 16), none⟩,
    ⟨(some 111), .call ⟨.builtin .len, #[(.tmp 110)], #[29]⟩, none⟩,
    ⟨(some 112), .binOp .lss 3 (.tmp 109) (.tmp 111) 3, none⟩] [0, 3, 4, 5, 6, 10, 16, 17, 18, 19, 112])
  (.cond (.tmp 112) .skip
  (.exit 0)))
  (.seq (.block 1 (.seq (.reg [⟨(some 115), .move (.tmp 18), none⟩,
    ⟨(some 116), .move (.tmp 16), none⟩,
    ⟨(some 117), .move (.tmp 19), none⟩,
    ⟨(some 118), .indexAddr 29 (.tmp 116) (.tmp 117), none⟩,
    ⟨(some 119), .load 32 (.tmp 118), none⟩,
    ⟨(some 120), .call ⟨.builtin .len, #[(.tmp 119)], #[32]⟩, none⟩,
    ⟨(some 121), .binOp .add 3 (.tmp 115) (.tmp 120) 3, none⟩,
    ⟨(some 18), .assign (.tmp 121), none⟩] [0, 3, 4, 5, 6, 10, 16, 17, 18, 19])
  (.seq (.regF [⟨(some 128), .move (.tmp 16), none⟩,
    ⟨(some 129), .move (.tmp 19), none⟩,
    ⟨(some 130), .indexAddr 29 (.tmp 128) (.tmp 129), none⟩]
    [122, 123, 124, 125, 126, 131, 132, 134] [.load 32 (.tmp 130)] [] []
    [⟨(some 122), .move (.tmp 16), none⟩,
    ⟨(some 123), .move (.tmp 19), none⟩,
    ⟨(some 124), .indexAddr 29 (.tmp 122) (.tmp 123), none⟩,
    ⟨(some 125), .load 32 (.tmp 124), none⟩,
    ⟨(some 126), .move (.tmp 4), none⟩,
    ⟨(some 127), .call ⟨.value (.func 12), #[(.tmp 125), (.tmp 126)], #[32, 3]⟩, none⟩,
    ⟨(some 131), .load 32 (.tmp 130), none⟩,
    ⟨(some 132), .move (.tmp 5), none⟩,
    ⟨(some 133), .call ⟨.value (.func 12), #[(.tmp 131), (.tmp 132)], #[32, 3]⟩, none⟩,
    ⟨(some 134), .binOp .neq 4 (.tmp 127) (.tmp 133) 4, none⟩] [0, 3, 4, 5, 6, 10, 16, 17, 18, 19, 134])
  (.cond (.tmp 134) (.seq (.reg [⟨(some 2), .assign (.const (.bool false)), none⟩] [2])
  .ret)
  .skip))))
  (.reg [⟨(some 113), .move (.tmp 19), none⟩,
    ⟨(some 114), .binOp .add 3 (.tmp 113) (.const (.int .i64 1)) 3, none⟩,
    ⟨(some 19), .assign (.tmp 114), none⟩] [0, 3, 4, 5, 6, 10, 16, 17, 18, 19])))
/-- head: [0, 4, 5, 20, 21, 22] -/
def laws_FnCensus_l1 : ACode := (.seq (.seq (.reg [⟨(some 157), .move (.tmp 22), none⟩,
    ⟨(some 158), .move (.tmp 20), none⟩,
    ⟨(some 159), .call ⟨.builtin .len, #[(.tmp 158)], #[29]⟩, none⟩,
    ⟨(some 160), .binOp .lss 3 (.tmp 157) (.tmp 159) 3, none⟩] [0, 4, 5, 20, 21, 22, 160])
  (.cond (.tmp 160) .skip
  (.exit 2)))
  (.seq (.block 3 (.seq (.reg [⟨(some 163), .move (.tmp 20), none⟩,
    ⟨(some 164), .move (.tmp 22), none⟩,
    ⟨(some 165), .indexAddr 29 (.tmp 163) (.tmp 164), none⟩,
    ⟨(some 166), .load 32 (.tmp 165), none⟩,
    ⟨(some 167), .move (.tmp 4), none⟩,
    ⟨(some 168), .call ⟨.value (.func 12), #[(.tmp 166), (.tmp 167)], #[32, 3]⟩, none⟩,
    ⟨(some 169), .move (.tmp 168), none⟩,
    ⟨(some 170), .move (.tmp 20), (some (some 169, true))⟩,
    ⟨(some 171), .move (.tmp 22), (some (some 169, true))⟩,
    ⟨(some 172), .indexAddr 29 (.tmp 170) (.tmp 171), (some (some 169, true))⟩,
    ⟨(some 173), .load 32 (.tmp 172), (some (some 169, true))⟩,
    ⟨(some 174), .move (.tmp 5), (some (some 169, true))⟩,
    ⟨(some 175), .call ⟨.value (.func 12), #[(.tmp 173), (.tmp 174)], #[32, 3]⟩, (some (some 169, true))⟩,
    ⟨(some 176), .pick (.tmp 169) (.tmp 175) (.const (.bool false)), none⟩] [0, 4, 5, 20, 21, 22, 176])
  (.cond (.tmp 176) (.seq (.reg [⟨(some 2), .assign (.const (.bool false)), none⟩] [2])
  .ret)
  .skip)))
  (.reg [⟨(some 161), .move (.tmp 22), none⟩,
    ⟨(some 162), .binOp .add 3 (.tmp 161) (.const (.int .i64 1)) 3, none⟩,
    ⟨(some 22), .assign (.tmp 162), none⟩] [0, 4, 5, 20, 21, 22])))
/-- slots: [0, 21] -/
def laws_FnCensus_r2 : ACode := (.cut [0, 21] (.seq (.reg [⟨(some 177), .move (.tmp 21), none⟩,
    ⟨(some 178), .unOp .not 4 (.tmp 177), none⟩] [0, 178])
  (.cond (.tmp 178) (.seq (.reg [⟨(some 2), .assign (.const (.bool false)), none⟩] [2])
  .ret)
  .skip)))
/-- slots: [0, 3, 4, 5, 6, 10, 17, 18] -/
def laws_FnCensus_r3 : ACode := (.cut [0, 3, 4, 5, 6, 10, 17, 18] (.seq (.seq (.reg [⟨(some 135), .move (.tmp 17), none⟩,
    ⟨(some 136), .unOp .not 4 (.tmp 135), none⟩,
    ⟨(some 137), .move (.tmp 136), none⟩,
    ⟨(some 138), .move (.tmp 18), (some (some 137, false))⟩,
    ⟨(some 139), .move (.tmp 3), (some (some 137, false))⟩,
    ⟨(some 140), .call ⟨.builtin .len, #[(.tmp 139)], #[24]⟩, (some (some 137, false))⟩,
    ⟨(some 141), .binOp .neq 3 (.tmp 138) (.tmp 140) 3, (some (some 137, false))⟩,
    ⟨(some 142), .pick (.tmp 137) (.const (.bool true)) (.tmp 141), none⟩,
    ⟨(some 143), .move (.tmp 142), none⟩,
    ⟨(some 144), .move (.tmp 6), (some (some 143, false))⟩,
    ⟨(some 145), .move (.tmp 10), (some (some 143, false))⟩,
    ⟨(some 146), .binOp .lss 3 (.tmp 144) (.tmp 145) 3, (some (some 143, false))⟩,
    ⟨(some 147), .pick (.tmp 143) (.const (.bool true)) (.tmp 146), none⟩] [0, 3, 4, 5, 6, 147])
  (.cond (.tmp 147) (.seq (.reg [⟨(some 2), .assign (.const (.bool false)), none⟩] [2])
  .ret)
  .skip))
  (.seq (.reg [⟨(some 148), .move (.tmp 6), none⟩,
    ⟨(some 149), .binOp .lss 3 (.tmp 148) (.const (.int .i64 16)) 3, none⟩] [0, 3, 4, 5, 6, 149])
  (.cond (.tmp 149) (.seq (.reg [⟨(some 151), .move (.tmp 3), none⟩,
    ⟨(some 152), .move (.tmp 6), none⟩,
    ⟨(some 153), .binOp .add 3 (.tmp 152) (.const (.int .i64 1)) 3, none⟩,
    ⟨(some 154), .call ⟨.value (.func 11), #[(.tmp 151), (.tmp 153)], #[24, 3]⟩, none⟩,
    ⟨(some 150), .move (.tmp 154), none⟩,
    ⟨(some 155), .extract (.tmp 150) 0, none⟩,
    ⟨(some 156), .extract (.tmp 150) 1, none⟩,
    ⟨(some 20), .assign (.tmp 155), none⟩,
    ⟨(some 21), .assign (.tmp 156), none⟩] [0, 4, 5, 20, 21])
  (.seq (.seq (.reg [⟨(some 22), .assign (.const (.int .i64 0)), none⟩] [0, 4, 5, 20, 21, 22])
  (.block 2 (.loop laws_FnCensus_l1)))
  laws_FnCensus_r2))
  .skip))))
/-- head: [23, 25, 29, 33, 34] -/
def laws_FnCensus_l2 : ACode := (.seq (.seq (.reg [⟨(some 237), .move (.tmp 34), none⟩,
    ⟨(some 238), .move (.tmp 25), none⟩,
    ⟨(some 239), .move (.tmp 33), none⟩,
    ⟨(some 240), .indexAddr 29 (.tmp 238) (.tmp 239), none⟩,
    ⟨(some 241), .load 32 (.tmp 240), none⟩,
    ⟨(some 242), .call ⟨.builtin .len, #[(.tmp 241)], #[32]⟩, none⟩,
    ⟨(some 243), .binOp .lss 3 (.tmp 237) (.tmp 242) 3, none⟩] [23, 25, 29, 33, 34, 243])
  (.cond (.tmp 243) .skip
  (.exit 6)))
  (.seq (.block 7 (.seq (.regF [⟨(some 255), .move (.tmp 25), none⟩,
    ⟨(some 256), .move (.tmp 33), none⟩,
    ⟨(some 257), .indexAddr 29 (.tmp 255) (.tmp 256), none⟩]
    [246, 247, 248, 249, 250, 251, 252, 253, 258, 259, 260, 261] [.load 32 (.tmp 257)] [] []
    [⟨(some 246), .move (.tmp 29), none⟩,
    ⟨(some 247), .move (.tmp 25), none⟩,
    ⟨(some 248), .move (.tmp 33), none⟩,
    ⟨(some 249), .indexAddr 29 (.tmp 247) (.tmp 248), none⟩,
    ⟨(some 250), .load 32 (.tmp 249), none⟩,
    ⟨(some 251), .move (.tmp 34), none⟩,
    ⟨(some 252), .indexAddr 32 (.tmp 250) (.tmp 251), none⟩,
    ⟨(some 253), .load 3 (.tmp 252), none⟩,
    ⟨(some 254), .call ⟨.value (.func 12), #[(.tmp 246), (.tmp 253)], #[32, 3]⟩, none⟩,
    ⟨(some 258), .load 32 (.tmp 257), none⟩,
    ⟨(some 259), .call ⟨.builtin .len, #[(.tmp 258)], #[32]⟩, none⟩,
    ⟨(some 260), .binOp .eql 3 (.tmp 259) (.const (.int .i64 1)) 3, none⟩,
    ⟨(some 261), .binOp .neq 4 (.tmp 254) (.tmp 260) 4, none⟩] [23, 25, 29, 33, 34, 261])
  (.cond (.tmp 261) (.seq (.reg [⟨(some 2), .assign (.const (.bool false)), none⟩] [2])
  .ret)
  .skip)))
  (.reg [⟨(some 244), .move (.tmp 34), none⟩,
    ⟨(some 245), .binOp .add 3 (.tmp 244) (.const (.int .i64 1)) 3, none⟩,
    ⟨(some 34), .assign (.tmp 245), none⟩] [23, 25, 29, 33, 34])))
/-- slots: [23, 25, 29, 33] -/
def laws_FnCensus_r5 : ACode := (.cut [23, 25, 29, 33] (.reg [⟨(some 235), .move (.tmp 33), none⟩,
    ⟨(some 236), .binOp .add 3 (.tmp 235) (.const (.int .i64 1)) 3, none⟩,
    ⟨(some 33), .assign (.tmp 236), none⟩] [23, 25, 29, 33]))
/-- head: [23, 25, 29, 33] -/
def laws_FnCensus_l3 : ACode := (.seq (.seq (.reg [⟨(some 231), .move (.tmp 33), none⟩,
    ⟨(some 232), .move (.tmp 25), none⟩,
    ⟨(some 233), .call ⟨.builtin .len, #[(.tmp 232)], #[29]⟩, none⟩,
    ⟨(some 234), .binOp .lss 3 (.tmp 231) (.tmp 233) 3, none⟩] [23, 25, 29, 33, 234])
  (.cond (.tmp 234) .skip
  (.exit 4)))
  (.seq (.block 5 (.seq (.reg [⟨(some 34), .assign (.const (.int .i64 0)), none⟩] [23, 25, 29, 33, 34])
  (.block 6 (.loop laws_FnCensus_l2))))
  laws_FnCensus_r5))
/-- slots: [23] -/
def laws_FnCensus_t15 : ACode := (.cut [23] (.seq (.reg [⟨(some 262), .move (.tmp 23), none⟩,
    ⟨(some 263), .call ⟨.value (.func 19), #[(.tmp 262)], #[24]⟩, none⟩,
    ⟨(some 264), .move (.tmp 23), none⟩,
    ⟨(some 265), .call ⟨.value (.func 20), #[(.tmp 264)], #[24]⟩, none⟩,
    ⟨(some 266), .binOp .eql 4 (.tmp 263) (.tmp 265) 4, none⟩,
    ⟨(some 2), .assign (.tmp 266), none⟩] [2])
  .ret))
/-- slots: [23, 25, 29] -/
def laws_FnCensus_t14 : ACode := (.cut [23, 25, 29] (.seq (.seq (.reg [⟨(some 33), .assign (.const (.int .i64 0)), none⟩] [23, 25, 29, 33])
  (.block 4 (.loop laws_FnCensus_l3)))
  laws_FnCensus_t15))
/-- slots: [23, 24, 25, 26, 29, 30] -/
def laws_FnCensus_t13 : ACode := (.cut [23, 24, 25, 26, 29, 30] (.seq (.seq (.reg [⟨(some 212), .move (.tmp 23), none⟩,
    ⟨(some 213), .move (.tmp 24), none⟩,
    ⟨(some 214), .call ⟨.value (.func 17), #[(.tmp 212), (.tmp 213)], #[24, 3]⟩, none⟩,
    ⟨(some 211), .move (.tmp 214), none⟩,
    ⟨(some 215), .extract (.tmp 211) 0, none⟩,
    ⟨(some 216), .extract (.tmp 211) 1, none⟩,
    ⟨(some 31), .assign (.tmp 215), none⟩,
    ⟨(some 32), .assign (.tmp 216), none⟩] [23, 25, 26, 29, 30, 31, 32])
  (.seq (.reg [⟨(some 217), .move (.tmp 30), none⟩,
    ⟨(some 218), .move (.tmp 32), none⟩,
    ⟨(some 219), .binOp .neq 4 (.tmp 217) (.tmp 218) 4, none⟩,
    ⟨(some 220), .move (.tmp 219), none⟩,
    ⟨(some 221), .move (.tmp 30), (some (some 220, false))⟩,
    ⟨(some 222), .move (.tmp 26), (some (some 220, false))⟩,
    ⟨(some 223), .binOp .neq 4 (.tmp 221) (.tmp 222) 4, (some (some 220, false))⟩,
    ⟨(some 224), .pick (.tmp 220) (.const (.bool true)) (.tmp 223), none⟩,
    ⟨(some 225), .move (.tmp 224), none⟩,
    ⟨(some 226), .move (.tmp 29), (some (some 225, false))⟩,
    ⟨(some 227), .move (.tmp 31), (some (some 225, false))⟩,
    ⟨(some 228), .call ⟨.value (.func 18), #[(.tmp 226), (.tmp 227)], #[32, 32]⟩, (some (some 225, false))⟩,
    ⟨(some 229), .unOp .not 4 (.tmp 228), (some (some 225, false))⟩,
    ⟨(some 230), .pick (.tmp 225) (.const (.bool true)) (.tmp 229), none⟩] [23, 25, 29, 230])
  (.cond (.tmp 230) (.seq (.reg [⟨(some 2), .assign (.const (.bool false)), none⟩] [2])
  .ret)
  .skip)))
  laws_FnCensus_t14))
/-- slots: [23, 24, 25, 26] -/
def laws_FnCensus_t12 : ACode := (.cut [23, 24, 25, 26] (.seq (.reg [⟨(some 206), .move (.tmp 23), none⟩,
    ⟨(some 207), .move (.tmp 24), none⟩,
    ⟨(some 208), .call ⟨.value (.func 16), #[(.tmp 206), (.tmp 207)], #[24, 3]⟩, none⟩,
    ⟨(some 205), .move (.tmp 208), none⟩,
    ⟨(some 209), .extract (.tmp 205) 0, none⟩,
    ⟨(some 210), .extract (.tmp 205) 1, none⟩,
    ⟨(some 29), .assign (.tmp 209), none⟩,
    ⟨(some 30), .assign (.tmp 210), none⟩] [23, 24, 25, 26, 29, 30])
  laws_FnCensus_t13))
/-- slots: [23, 24, 25, 26] -/
def laws_FnCensus_t11 : ACode := (.cut [23, 24, 25, 26] (.seq (.seq (.reg [⟨(some 191), .move (.tmp 23), none⟩,
    ⟨(some 192), .move (.tmp 24), none⟩,
    ⟨(some 193), .call ⟨.value (.func 14), #[(.tmp 191), (.tmp 192)], #[24, 3]⟩, none⟩,
    ⟨(some 190), .move (.tmp 193), none⟩,
    ⟨(some 194), .extract (.tmp 190) 0, none⟩,
    ⟨(some 195), .extract (.tmp 190) 1, none⟩,
    ⟨(some 27), .assign (.tmp 194), none⟩,
    ⟨(some 28), .assign (.tmp 195), none⟩] [23, 24, 25, 26, 27, 28])
  (.seq (.reg [⟨(some 196), .move (.tmp 26), none⟩,
    ⟨(some 197), .move (.tmp 28), none⟩,
    ⟨(some 198), .binOp .neq 4 (.tmp 196) (.tmp 197) 4, none⟩,
    ⟨(some 199), .move (.tmp 198), none⟩,
    ⟨(some 200), .move (.tmp 25), (some (some 199, false))⟩,
    ⟨(some 201), .move (.tmp 27), (some (some 199, false))⟩,
    ⟨(some 202), .call ⟨.value (.func 15), #[(.tmp 200), (.tmp 201)], #[29, 29]⟩, (some (some 199, false))⟩,
    ⟨(some 203), .unOp .not 4 (.tmp 202), (some (some 199, false))⟩,
    ⟨(some 204), .pick (.tmp 199) (.const (.bool true)) (.tmp 203), none⟩] [23, 24, 25, 26, 204])
  (.cond (.tmp 204) (.seq (.reg [⟨(some 2), .assign (.const (.bool false)), none⟩] [2])
  .ret)
  .skip)))
  laws_FnCensus_t12))
/-- slots: [23, 24] -/
def laws_FnCensus_t10 : ACode := (.cut [23, 24] (.seq (.reg [⟨(some 185), .move (.tmp 23), none⟩,
    ⟨(some 186), .move (.tmp 24), none⟩,
    ⟨(some 187), .call ⟨.value (.func 11), #[(.tmp 185), (.tmp 186)], #[24, 3]⟩, none⟩,
    ⟨(some 184), .move (.tmp 187), none⟩,
    ⟨(some 188), .extract (.tmp 184) 0, none⟩,
    ⟨(some 189), .extract (.tmp 184) 1, none⟩,
    ⟨(some 25), .assign (.tmp 188), none⟩,
    ⟨(some 26), .assign (.tmp 189), none⟩] [23, 24, 25, 26])
  laws_FnCensus_t11))
/-- slots: [0] -/
def laws_FnCensus_t9 : ACode := (.cut [0] (.seq (.reg [⟨(some 180), .move (.tmp 0), none⟩,
    ⟨(some 181), .call ⟨.value (.func 13), #[(.tmp 180)], #[22]⟩, none⟩,
    ⟨(some 179), .move (.tmp 181), none⟩,
    ⟨(some 182), .extract (.tmp 179) 0, none⟩,
    ⟨(some 183), .extract (.tmp 179) 1, none⟩,
    ⟨(some 23), .assign (.tmp 182), none⟩,
    ⟨(some 24), .assign (.tmp 183), none⟩] [23, 24])
  laws_FnCensus_t10))
/-- slots: [0, 3, 4, 5, 6, 7, 10] -/
def laws_FnCensus_t8 : ACode := (.cut [0, 3, 4, 5, 6, 7, 10] (.seq (.seq (.reg [⟨(some 102), .move (.tmp 7), none⟩] [0, 3, 4, 5, 6, 10, 102])
  (.cond (.tmp 102) (.seq (.reg [⟨(some 104), .move (.tmp 3), none⟩,
    ⟨(some 105), .move (.tmp 6), none⟩,
    ⟨(some 106), .call ⟨.value (.func 11), #[(.tmp 104), (.tmp 105)], #[24, 3]⟩, none⟩,
    ⟨(some 103), .move (.tmp 106), none⟩,
    ⟨(some 107), .extract (.tmp 103) 0, none⟩,
    ⟨(some 108), .extract (.tmp 103) 1, none⟩,
    ⟨(some 16), .assign (.tmp 107), none⟩,
    ⟨(some 17), .assign (.tmp 108), none⟩] [0, 3, 4, 5, 6, 10, 16, 17])
  (.seq (.reg [⟨(some 18), .assign (.const (.int .i64 0)), none⟩] [0, 3, 4, 5, 6, 10, 16, 17, 18])
  (.seq (.seq (.reg [⟨(some 19), .assign (.const (.int .i64 0)), none⟩] [0, 3, 4, 5, 6, 10, 16, 17, 18, 19])
  (.block 0 (.loop laws_FnCensus_l0)))
  laws_FnCensus_r3)))
  .skip))
  laws_FnCensus_t9))
/-- slots: [0, 3, 4, 5, 6, 7, 10, 11] -/
def laws_FnCensus_t7 : ACode := (.cut [0, 3, 4, 5, 6, 7, 10, 11] (.seq (.seq (.reg [⟨(some 88), .move (.tmp 3), none⟩,
    ⟨(some 89), .move (.tmp 5), none⟩,
    ⟨(some 90), .move (.tmp 4), none⟩,
    ⟨(some 91), .call ⟨.value (.func 9), #[(.tmp 88), (.tmp 89), (.tmp 90)], #[24, 3, 3]⟩, none⟩,
    ⟨(some 87), .move (.tmp 91), none⟩,
    ⟨(some 92), .extract (.tmp 87) 0, none⟩,
    ⟨(some 93), .extract (.tmp 87) 1, none⟩,
    ⟨(some 14), .assign (.tmp 92), none⟩,
    ⟨(some 15), .assign (.tmp 93), none⟩] [0, 3, 4, 5, 6, 7, 10, 11, 14, 15])
  (.seq (.reg [⟨(some 94), .move (.tmp 14), none⟩,
    ⟨(some 95), .move (.tmp 10), none⟩,
    ⟨(some 96), .binOp .neq 3 (.tmp 94) (.tmp 95) 3, none⟩,
    ⟨(some 97), .move (.tmp 96), none⟩,
    ⟨(some 98), .move (.tmp 15), (some (some 97, false))⟩,
    ⟨(some 99), .move (.tmp 11), (some (some 97, false))⟩,
    ⟨(some 100), .binOp .neq 4 (.tmp 98) (.tmp 99) 4, (some (some 97, false))⟩,
    ⟨(some 101), .pick (.tmp 97) (.const (.bool true)) (.tmp 100), none⟩] [0, 3, 4, 5, 6, 7, 10, 101])
  (.cond (.tmp 101) (.seq (.reg [⟨(some 2), .assign (.const (.bool false)), none⟩] [2])
  .ret)
  .skip)))
  laws_FnCensus_t8))
/-- slots: [0, 3, 4, 5, 6, 7, 10, 11] -/
def laws_FnCensus_t6 : ACode := (.cut [0, 3, 4, 5, 6, 7, 10, 11] (.seq (.seq (.reg [⟨(some 73), .move (.tmp 3), none⟩,
    ⟨(some 74), .move (.tmp 4), none⟩,
    ⟨(some 75), .move (.tmp 5), none⟩,
    ⟨(some 76), .call ⟨.value (.func 10), #[(.tmp 73), (.tmp 74), (.tmp 75)], #[24, 3, 3]⟩, none⟩,
    ⟨(some 72), .move (.tmp 76), none⟩,
    ⟨(some 77), .extract (.tmp 72) 0, none⟩,
    ⟨(some 78), .extract (.tmp 72) 1, none⟩,
    ⟨(some 12), .assign (.tmp 77), none⟩,
    ⟨(some 13), .assign (.tmp 78), none⟩] [0, 3, 4, 5, 6, 7, 10, 11, 12, 13])
  (.seq (.reg [⟨(some 79), .move (.tmp 10), none⟩,
    ⟨(some 80), .move (.tmp 12), none⟩,
    ⟨(some 81), .binOp .neq 3 (.tmp 79) (.tmp 80) 3, none⟩,
    ⟨(some 82), .move (.tmp 81), none⟩,
    ⟨(some 83), .move (.tmp 11), (some (some 82, false))⟩,
    ⟨(some 84), .move (.tmp 13), (some (some 82, false))⟩,
    ⟨(some 85), .binOp .neq 4 (.tmp 83) (.tmp 84) 4, (some (some 82, false))⟩,
    ⟨(some 86), .pick (.tmp 82) (.const (.bool true)) (.tmp 85), none⟩] [0, 3, 4, 5, 6, 7, 10, 11, 86])
  (.cond (.tmp 86) (.seq (.reg [⟨(some 2), .assign (.const (.bool false)), none⟩] [2])
  .ret)
  .skip)))
  laws_FnCensus_t7))
/-- slots: [0, 3, 4, 5, 6, 7] -/
def laws_FnCensus_t5 : ACode := (.cut [0, 3, 4, 5, 6, 7] (.seq (.reg [⟨(some 66), .move (.tmp 3), none⟩,
    ⟨(some 67), .move (.tmp 4), none⟩,
    ⟨(some 68), .move (.tmp 5), none⟩,
    ⟨(some 69), .call ⟨.value (.func 9), #[(.tmp 66), (.tmp 67), (.tmp 68)], #[24, 3, 3]⟩, none⟩,
    ⟨(some 65), .move (.tmp 69), none⟩,
    ⟨(some 70), .extract (.tmp 65) 0, none⟩,
    ⟨(some 71), .extract (.tmp 65) 1, none⟩,
    ⟨(some 10), .assign (.tmp 70), none⟩,
    ⟨(some 11), .assign (.tmp 71), none⟩] [0, 3, 4, 5, 6, 7, 10, 11])
  laws_FnCensus_t6))
/-- slots: [0, 3, 4, 5, 6, 7] -/
def laws_FnCensus_t4 : ACode := (.cut [0, 3, 4, 5, 6, 7] (.seq (.seq (.reg [⟨(some 51), .move (.tmp 3), none⟩,
    ⟨(some 52), .move (.tmp 4), none⟩,
    ⟨(some 53), .move (.tmp 5), none⟩,
    ⟨(some 54), .call ⟨.value (.func 8), #[(.tmp 51), (.tmp 52), (.tmp 53)], #[24, 3, 3]⟩, none⟩,
    ⟨(some 50), .move (.tmp 54), none⟩,
    ⟨(some 55), .extract (.tmp 50) 0, none⟩,
    ⟨(some 56), .extract (.tmp 50) 1, none⟩,
    ⟨(some 8), .assign (.tmp 55), none⟩,
    ⟨(some 9), .assign (.tmp 56), none⟩] [0, 3, 4, 5, 6, 7, 8, 9])
  (.seq (.reg [⟨(some 57), .move (.tmp 6), none⟩,
    ⟨(some 58), .move (.tmp 8), none⟩,
    ⟨(some 59), .binOp .neq 3 (.tmp 57) (.tmp 58) 3, none⟩,
    ⟨(some 60), .move (.tmp 59), none⟩,
    ⟨(some 61), .move (.tmp 7), (some (some 60, false))⟩,
    ⟨(some 62), .move (.tmp 9), (some (some 60, false))⟩,
    ⟨(some 63), .binOp .neq 4 (.tmp 61) (.tmp 62) 4, (some (some 60, false))⟩,
    ⟨(some 64), .pick (.tmp 60) (.const (.bool true)) (.tmp 63), none⟩] [0, 3, 4, 5, 6, 7, 64])
  (.cond (.tmp 64) (.seq (.reg [⟨(some 2), .assign (.const (.bool false)), none⟩] [2])
  .ret)
  .skip)))
  laws_FnCensus_t5))
/-- slots: [0, 3, 4, 5] -/
def laws_FnCensus_t3 : ACode := (.cut [0, 3, 4, 5] (.seq (.reg [⟨(some 44), .move (.tmp 3), none⟩,
    ⟨(some 45), .move (.tmp 4), none⟩,
    ⟨(some 46), .move (.tmp 5), none⟩,
    ⟨(some 47), .call ⟨.value (.func 7), #[(.tmp 44), (.tmp 45), (.tmp 46)], #[24, 3, 3]⟩, none⟩,
    ⟨(some 43), .move (.tmp 47), none⟩,
    ⟨(some 48), .extract (.tmp 43) 0, none⟩,
    ⟨(some 49), .extract (.tmp 43) 1, none⟩,
    ⟨(some 6), .assign (.tmp 48), none⟩,
    ⟨(some 7), .assign (.tmp 49), none⟩] [0, 3, 4, 5, 6, 7])
  laws_FnCensus_t4))
/-- slots: [0] -/
def laws_FnCensus_t2 : ACode := (.cut [0] (.seq (.reg [⟨(some 38), .move (.tmp 0), none⟩,
    ⟨(some 39), .call ⟨.value (.func 6), #[(.tmp 38)], #[22]⟩, none⟩,
    ⟨(some 37), .move (.tmp 39), none⟩,
    ⟨(some 40), .extract (.tmp 37) 0, none⟩,
    ⟨(some 41), .extract (.tmp 37) 1, none⟩,
    ⟨(some 42), .extract (.tmp 37) 2, none⟩,
    ⟨(some 3), .assign (.tmp 40), none⟩,
    ⟨(some 4), .assign (.tmp 41), none⟩,
    ⟨(some 5), .assign (.tmp 42), none⟩] [0, 3, 4, 5])
  laws_FnCensus_t3))
/-- slots: [0] -/
def laws_FnCensus_t1 : ACode := (.cut [0] (.seq (.seq (.reg [⟨(some 35), .move (.tmp 0), none⟩,
    ⟨(some 36), .call ⟨.value (.func 5), #[(.tmp 35)], #[22]⟩, none⟩] [0, 36])
  (.cond (.tmp 36) (.seq (.reg [⟨(some 2), .assign (.const (.bool true)), none⟩] [2])
  .ret)
  .skip))
  laws_FnCensus_t2))
/-- loop.example/g01062/laws.FnCensus: number 3, params [0] -/
def laws_FnCensus_c : ACode := (.seq (.reg [⟨(some 2), .assign (.const (.bool false)), none⟩] [0])
  laws_FnCensus_t1)
theorem laws_FnCensus_k : fnOk Try.prog (fun i => i == 22 || i == 50) 3 = some (laws_FnCensus_c.strip, 267, [.tmp 2]) := by kernel_rfl
/-- loop.example/g01062/spec.DrawGreatestLimit: number 6, params [0] -/
def spec_DrawGreatestLimit_c : ACode := (.seq (.reg [⟨(some 2), .assign (.const (.slice none 0 0)), none⟩,
    ⟨(some 3), .assign (.const (.int .i64 0)), none⟩,
    ⟨(some 4), .assign (.const (.int .i64 0)), none⟩] [0])
  (.seq (.reg [⟨(some 5), .move (.tmp 0), none⟩,
    ⟨(some 6), .call ⟨.value (.func 30), #[(.tmp 5)], #[22]⟩, none⟩,
    ⟨(some 7), .extract (.tmp 6) 0, none⟩,
    ⟨(some 8), .extract (.tmp 6) 1, none⟩,
    ⟨(some 9), .extract (.tmp 6) 2, none⟩,
    ⟨(some 2), .assign (.tmp 7), none⟩,
    ⟨(some 3), .assign (.tmp 8), none⟩,
    ⟨(some 4), .assign (.tmp 9), none⟩] [2, 3, 4])
  .ret))
theorem spec_DrawGreatestLimit_k : fnOk Try.prog (fun _ => false) 6 = some (spec_DrawGreatestLimit_c.strip, 10, [.tmp 2, .tmp 3, .tmp 4]) := by kernel_rfl
/-- loop.example/g01062/spec.DrawCoversSeen: number 13, params [0] -/
def spec_DrawCoversSeen_c : ACode := (.seq (.reg [⟨(some 2), .assign (.const (.slice none 0 0)), none⟩,
    ⟨(some 3), .assign (.const (.int .i64 0)), none⟩] [0])
  (.seq (.reg [⟨(some 5), .move (.tmp 0), none⟩,
    ⟨(some 6), .build 57 #[(0, (.tmp 5))], none⟩,
    ⟨(some 7), .box 57 (.tmp 6), none⟩,
    ⟨(some 4), .assign (.tmp 7), none⟩] [4])
  (.seq (.reg [⟨(some 8), .move (.tmp 4), none⟩,
    ⟨(some 9), .call ⟨.value (.func 43), #[(.tmp 8)], #[54]⟩, none⟩,
    ⟨(some 10), .move (.tmp 4), none⟩,
    ⟨(some 11), .call ⟨.value (.func 44), #[(.tmp 10)], #[54]⟩, none⟩,
    ⟨(some 2), .assign (.tmp 9), none⟩,
    ⟨(some 3), .assign (.tmp 11), none⟩] [2, 3])
  .ret)))
theorem spec_DrawCoversSeen_k : fnOk Try.prog (fun _ => false) 13 = some (spec_DrawCoversSeen_c.strip, 12, [.tmp 2, .tmp 3]) := by kernel_rfl
/-- loop.example/g01062/spec.DrawEvidenceOf: number 30, params [0] -/
def spec_DrawEvidenceOf_c : ACode := (.seq (.reg [⟨(some 2), .assign (.const (.slice none 0 0)), none⟩,
    ⟨(some 3), .assign (.const (.int .i64 0)), none⟩,
    ⟨(some 4), .assign (.const (.int .i64 0)), none⟩] [0])
  (.seq (.reg [⟨(some 7), .move (.tmp 0), none⟩,
    ⟨(some 8), .build 57 #[(0, (.tmp 7))], none⟩,
    ⟨(some 9), .box 57 (.tmp 8), none⟩,
    ⟨(some 5), .assign (.tmp 9), none⟩] [5])
  (.seq (.reg [⟨(some 10), .move (.tmp 5), none⟩,
    ⟨(some 11), .call ⟨.value (.func 43), #[(.tmp 10)], #[54]⟩, none⟩,
    ⟨(some 6), .assign (.tmp 11), none⟩] [5, 6])
  (.seq (.reg [⟨(some 12), .move (.tmp 6), none⟩,
    ⟨(some 13), .move (.tmp 5), none⟩,
    ⟨(some 14), .move (.tmp 6), none⟩,
    ⟨(some 15), .call ⟨.value (.func 55), #[(.tmp 13), (.tmp 14)], #[54, 24]⟩, none⟩,
    ⟨(some 16), .move (.tmp 5), none⟩,
    ⟨(some 17), .move (.tmp 6), none⟩,
    ⟨(some 18), .call ⟨.value (.func 55), #[(.tmp 16), (.tmp 17)], #[54, 24]⟩, none⟩,
    ⟨(some 2), .assign (.tmp 12), none⟩,
    ⟨(some 3), .assign (.tmp 15), none⟩,
    ⟨(some 4), .assign (.tmp 18), none⟩] [2, 3, 4])
  .ret))))
theorem spec_DrawEvidenceOf_k : fnOk Try.prog (fun _ => false) 30 = some (spec_DrawEvidenceOf_c.strip, 19, [.tmp 2, .tmp 3, .tmp 4]) := by kernel_rfl
/-- head: [0, 3, 4, 5] -/
def __spec_l1Cur__sightings13_l0 : ACode := (.seq (.seq (.reg [⟨(some 10), .move (.tmp 5), none⟩,
    ⟨(some 11), .binOp .gtr 3 (.tmp 10) (.const (.int .i64 0)) 3, none⟩] [0, 3, 4, 5, 11])
  (.cond (.tmp 11) .skip
  (.exit 0)))
  (.seq (.block 1 (.seq (.reg [⟨(some 14), .move (.tmp 4), none⟩,
    ⟨(some 15), .binOp .add 3 (.tmp 14) (.const (.int .i64 1)) 3, none⟩,
    ⟨(some 16), .move (.tmp 0), none⟩,
    ⟨(some 17), .call ⟨.value (.func 64), #[(.tmp 16), (.const (.int .i64 3))], #[54, 3]⟩, none⟩,
    ⟨(some 18), .binOp .add 3 (.tmp 15) (.tmp 17) 3, none⟩,
    ⟨(some 19), .move (.tmp 0), none⟩,
    ⟨(some 20), .call ⟨.value (.func 64), #[(.tmp 19), (.const (.int .i64 150))], #[54, 3]⟩, none⟩,
    ⟨(some 21), .binOp .quo 3 (.tmp 20) (.const (.int .i64 149)) 3, none⟩,
    ⟨(some 22), .binOp .sub 3 (.tmp 18) (.tmp 21) 3, none⟩,
    ⟨(some 4), .assign (.tmp 22), none⟩] [0, 3, 4, 5])
  (.reg [⟨(some 23), .move (.tmp 3), none⟩,
    ⟨(some 24), .move (.tmp 0), none⟩,
    ⟨(some 25), .move (.tmp 4), none⟩,
    ⟨(some 26), .call ⟨.value (.func 65), #[(.tmp 24), (.tmp 25)], #[54, 3]⟩, none⟩,
    ⟨(some 27), .buildSlice 24 1 #[(0, (.tmp 26))], none⟩,
    ⟨(some 28), .call ⟨.builtin .append, #[(.tmp 23), (.tmp 27)], #[24, 24]⟩, none⟩,
    ⟨(some 3), .assign (.tmp 28), none⟩] [0, 3, 4, 5])))
  (.reg [⟨(some 12), .move (.tmp 5), none⟩,
    ⟨(some 13), .binOp .sub 3 (.tmp 12) (.const (.int .i64 1)) 3, none⟩,
    ⟨(some 5), .assign (.tmp 13), none⟩] [0, 3, 4, 5])))
/-- head: [0, 3, 6] -/
def __spec_l1Cur__sightings13_l1 : ACode := (.seq (.seq (.reg [⟨(some 32), .move (.tmp 6), none⟩,
    ⟨(some 33), .move (.tmp 0), none⟩,
    ⟨(some 34), .call ⟨.value (.func 64), #[(.tmp 33), (.const (.int .i64 2))], #[54, 3]⟩, none⟩,
    ⟨(some 35), .binOp .add 3 (.const (.int .i64 10)) (.tmp 34) 3, none⟩,
    ⟨(some 36), .binOp .lss 3 (.tmp 32) (.tmp 35) 3, none⟩] [0, 3, 6, 36])
  (.cond (.tmp 36) .skip
  (.exit 2)))
  (.seq (.block 3 (.reg [⟨(some 39), .move (.tmp 3), none⟩,
    ⟨(some 40), .move (.tmp 6), none⟩,
    ⟨(some 41), .binOp .add 3 (.tmp 40) (.const (.int .i64 1)) 3, none⟩,
    ⟨(some 42), .move (.tmp 6), none⟩,
    ⟨(some 43), .binOp .add 3 (.const (.int .i64 1900)) (.tmp 42) 3, none⟩,
    ⟨(some 44), .move (.tmp 6), none⟩,
    ⟨(some 45), .binOp .add 3 (.const (.int .i64 1)) (.tmp 44) 3, none⟩,
    ⟨(some 46), .move (.tmp 6), none⟩,
    ⟨(some 47), .binOp .add 3 (.const (.int .i64 2)) (.tmp 46) 3, none⟩,
    ⟨(some 48), .buildSlice 32 2 #[(0, (.tmp 45)), (1, (.tmp 47))], none⟩,
    ⟨(some 49), .build 51 #[(0, (.tmp 41)), (1, (.tmp 43)), (2, (.const (.string ⟨#[98, 101, 114, 110]⟩))), (3, (.tmp 48))], none⟩,
    ⟨(some 50), .buildSlice 24 1 #[(0, (.tmp 49))], none⟩,
    ⟨(some 51), .call ⟨.builtin .append, #[(.tmp 39), (.tmp 50)], #[24, 24]⟩, none⟩,
    ⟨(some 3), .assign (.tmp 51), none⟩] [0, 3, 6]))
  (.reg [⟨(some 37), .move (.tmp 6), none⟩,
    ⟨(some 38), .binOp .add 3 (.tmp 37) (.const (.int .i64 1)) 3, none⟩,
    ⟨(some 6), .assign (.tmp 38), none⟩] [0, 3, 6])))
/-- (*loop.example/g01062/spec.l1Cur).sightings13: number 43, params [0] -/
def __spec_l1Cur__sightings13_c : ACode := (.seq (.reg [⟨(some 2), .assign (.const (.slice none 0 0)), none⟩] [0])
  (.seq (.reg [⟨(some 7), .buildSlice 24 0 #[], none⟩,
    ⟨(some 3), .assign (.tmp 7), none⟩] [0, 3])
  (.seq (.reg [⟨(some 4), .assign (.const (.int .i64 0)), none⟩] [0, 3, 4])
  (.seq (.seq (.reg [⟨(some 8), .move (.tmp 0), none⟩,
    ⟨(some 9), .call ⟨.value (.func 64), #[(.tmp 8), (.const (.int .i64 8))], #[54, 3]⟩, none⟩,
    ⟨(some 5), .assign (.tmp 9), none⟩] [0, 3, 4, 5])
  (.block 0 (.loop __spec_l1Cur__sightings13_l0)))
  (.seq (.seq (.reg [⟨(some 29), .move (.tmp 0), none⟩,
    ⟨(some 30), .call ⟨.value (.func 66), #[(.tmp 29), (.const (.int .i64 24))], #[54, 3]⟩, none⟩] [0, 3, 30])
  (.cond (.tmp 30) (.seq (.reg [⟨(some 31), .buildSlice 24 0 #[], none⟩,
    ⟨(some 3), .assign (.tmp 31), none⟩] [0, 3])
  (.seq (.reg [⟨(some 6), .assign (.const (.int .i64 0)), none⟩] [0, 3, 6])
  (.block 2 (.loop __spec_l1Cur__sightings13_l1))))
  .skip))
  (.seq (.reg [⟨(some 52), .move (.tmp 3), none⟩,
    ⟨(some 2), .assign (.tmp 52), none⟩] [2])
  .ret))))))
theorem __spec_l1Cur__sightings13_k : fnOk Try.prog (fun _ => false) 43 = some (__spec_l1Cur__sightings13_c.strip, 53, [.tmp 2]) := by kernel_rfl
/-- (*loop.example/g01062/spec.l1Cur).limit13: number 44, params [0] -/
def __spec_l1Cur__limit13_c : ACode := (.seq (.reg [⟨(some 2), .assign (.const (.int .i64 0)), none⟩] [0])
  (.seq (.reg [⟨(some 3), .move (.tmp 0), none⟩,
    ⟨(some 4), .buildSlice 32 11 #[(0, (.const (.int .i64 (-30)))), (1, (.const (.int .i64 (-12)))), (2, (.const (.int .i64 (-8)))), (3, (.const (.int .i64 (-1)))), (4, (.const (.int .i64 0))), (5, (.const (.int .i64 1))), (6, (.const (.int .i64 2))), (7, (.const (.int .i64 4))), (8, (.const (.int .i64 16))), (9, (.const (.int .i64 (-31)))), (10, (.const (.int .i64 17)))], none⟩,
    ⟨(some 5), .move (.tmp 0), none⟩,
    ⟨(some 6), .call ⟨.value (.func 64), #[(.tmp 5), (.const (.int .i64 24))], #[54, 3]⟩, none⟩,
    ⟨(some 7), .binOp .quo 3 (.tmp 6) (.const (.int .i64 11)) 3, none⟩,
    ⟨(some 8), .binOp .add 3 (.const (.int .i64 9)) (.tmp 7) 3, none⟩,
    ⟨(some 9), .slice 32 (.tmp 4) none (some (.tmp 8)) none, none⟩,
    ⟨(some 10), .call ⟨.value (.func 67), #[(.tmp 3), (.tmp 9)], #[54, 32]⟩, none⟩,
    ⟨(some 2), .assign (.tmp 10), none⟩] [2])
  .ret))
theorem __spec_l1Cur__limit13_k : fnOk Try.prog (fun _ => false) 44 = some (__spec_l1Cur__limit13_c.strip, 11, [.tmp 2]) := by kernel_rfl
/-- (*loop.example/g01062/spec.l1Cur).sightingId: number 55, params [0, 1] -/
def __spec_l1Cur__sightingId_c : ACode := (.seq (.reg [⟨(some 4), .assign (.const (.int .i64 0)), none⟩] [0, 1])
  (.seq (.seq (.reg [⟨(some 5), .move (.tmp 1), none⟩,
    ⟨(some 6), .call ⟨.builtin .len, #[(.tmp 5)], #[24]⟩, none⟩,
    ⟨(some 7), .binOp .eql 3 (.tmp 6) (.const (.int .i64 0)) 3, none⟩,
    ⟨(some 8), .move (.tmp 7), none⟩,
    ⟨(some 9), .move (.tmp 0), (some (some 8, false))⟩,
    ⟨(some 10), .call ⟨.value (.func 66), #[(.tmp 9), (.const (.int .i64 10))], #[54, 3]⟩, (some (some 8, false))⟩,
    ⟨(some 11), .pick (.tmp 8) (.const (.bool true)) (.tmp 10), none⟩] [0, 1, 11])
  (.cond (.tmp 11) (.seq (.reg [⟨(some 12), .move (.tmp 0), none⟩,
    ⟨(some 13), .buildSlice 32 3 #[(0, (.const (.int .i64 0))), (1, (.const (.int .i64 1))), (2, (.const (.int .i64 500)))], none⟩,
    ⟨(some 14), .call ⟨.value (.func 67), #[(.tmp 12), (.tmp 13)], #[54, 32]⟩, none⟩,
    ⟨(some 4), .assign (.tmp 14), none⟩] [4])
  .ret)
  .skip))
  (.seq (.reg [⟨(some 15), .move (.tmp 1), none⟩,
    ⟨(some 16), .move (.tmp 0), none⟩,
    ⟨(some 17), .move (.tmp 1), none⟩,
    ⟨(some 18), .call ⟨.builtin .len, #[(.tmp 17)], #[24]⟩, none⟩,
    ⟨(some 19), .call ⟨.value (.func 64), #[(.tmp 16), (.tmp 18)], #[54, 3]⟩, none⟩,
    ⟨(some 20), .indexAddr 24 (.tmp 15) (.tmp 19), none⟩,
    ⟨(some 21), .fieldAddr 51 (.tmp 20) 0, none⟩,
    ⟨(some 22), .load 3 (.tmp 21), none⟩,
    ⟨(some 4), .assign (.tmp 22), none⟩] [4])
  .ret)))
theorem __spec_l1Cur__sightingId_k : fnOk Try.prog (fun _ => false) 55 = some (__spec_l1Cur__sightingId_c.strip, 23, [.tmp 4]) := by kernel_rfl
/-- (*loop.example/g01062/spec.l1Cur).pick: number 64, params [0, 1] -/
def __spec_l1Cur__pick_c : ACode := (.seq (.reg [⟨(some 4), .assign (.const (.int .i64 0)), none⟩] [0, 1])
  (.seq (.seq (.reg [⟨(some 6), .move (.tmp 1), none⟩,
    ⟨(some 7), .binOp .leq 3 (.tmp 6) (.const (.int .i64 1)) 3, none⟩] [0, 1, 7])
  (.cond (.tmp 7) (.seq (.reg [⟨(some 4), .assign (.const (.int .i64 0)), none⟩] [4])
  .ret)
  .skip))
  (.seq (.reg [⟨(some 8), .move (.tmp 0), none⟩,
    ⟨(some 9), .call ⟨.value (.func 77), #[(.tmp 8)], #[54]⟩, none⟩,
    ⟨(some 5), .assign (.tmp 9), none⟩] [0, 1, 5])
  (.seq (.seq (.reg [⟨(some 10), .move (.tmp 1), none⟩,
    ⟨(some 11), .binOp .gtr 3 (.tmp 10) (.const (.int .i64 200)) 3, none⟩] [0, 1, 5, 11])
  (.cond (.tmp 11) (.reg [⟨(some 12), .move (.tmp 5), none⟩,
    ⟨(some 13), .binOp .mul 3 (.tmp 12) (.const (.int .i64 256)) 3, none⟩,
    ⟨(some 14), .move (.tmp 0), none⟩,
    ⟨(some 15), .call ⟨.value (.func 77), #[(.tmp 14)], #[54]⟩, none⟩,
    ⟨(some 16), .binOp .add 3 (.tmp 13) (.tmp 15) 3, none⟩,
    ⟨(some 5), .assign (.tmp 16), none⟩] [1, 5])
  .skip))
  (.seq (.reg [⟨(some 17), .move (.tmp 5), none⟩,
    ⟨(some 18), .move (.tmp 1), none⟩,
    ⟨(some 19), .binOp .rem 3 (.tmp 17) (.tmp 18) 3, none⟩,
    ⟨(some 4), .assign (.tmp 19), none⟩] [4])
  .ret)))))
theorem __spec_l1Cur__pick_k : fnOk Try.prog (fun _ => false) 64 = some (__spec_l1Cur__pick_c.strip, 20, [.tmp 4]) := by kernel_rfl
/-- (*loop.example/g01062/spec.l1Cur).sighting13: number 65, params [0, 1] -/
def __spec_l1Cur__sighting13_c : ACode := (.seq (.reg [⟨(some 4), .alloc 51, none⟩] [0, 1, 4])
  (.seq (.reg [⟨(some 6), .move (.tmp 1), none⟩,
    ⟨(some 7), .move (.tmp 0), none⟩,
    ⟨(some 8), .buildSlice 32 4 #[(0, (.const (.int .i64 1840))), (1, (.const (.int .i64 1900))), (2, (.const (.int .i64 1950))), (3, (.const (.int .i64 2100)))], none⟩,
    ⟨(some 9), .call ⟨.value (.func 67), #[(.tmp 7), (.tmp 8)], #[54, 32]⟩, none⟩,
    ⟨(some 10), .move (.tmp 0), none⟩,
    ⟨(some 11), .buildSlice 88 3 #[(0, (.const (.string ⟨#[98, 101, 114, 110]⟩))), (1, (.const (.string ⟨#[98, 101, 114, 110]⟩))), (2, (.const (.string ⟨#[103, 101, 110, 102]⟩)))], none⟩,
    ⟨(some 12), .call ⟨.value (.func 78), #[(.tmp 10), (.tmp 11)], #[54, 88]⟩, none⟩,
    ⟨(some 13), .move (.tmp 0), none⟩,
    ⟨(some 14), .call ⟨.value (.func 79), #[(.tmp 13)], #[54]⟩, none⟩,
    ⟨(some 15), .build 51 #[(0, (.tmp 6)), (1, (.tmp 9)), (2, (.tmp 12)), (3, (.tmp 14))], none⟩,
    ⟨(some 5), .alloc 51, none⟩,
    ⟨none, .store 51 (.tmp 5) (.tmp 15), none⟩] [0, 4, 5])
  (.seq (.seq (.reg [⟨(some 16), .move (.tmp 0), none⟩,
    ⟨(some 17), .call ⟨.value (.func 64), #[(.tmp 16), (.const (.int .i64 100))], #[54, 3]⟩, none⟩] [0, 4, 5, 17])
  (.block 0 (.seq (.reg [⟨(some 19), .binOp .eql 3 (.tmp 17) (.const (.int .i64 0)) 3, none⟩,
    ⟨(some 18), .assign (.tmp 19), none⟩] [0, 4, 5, 17, 18])
  (.cond (.tmp 18) (.reg [⟨(some 20), .move (.tmp 0), none⟩,
    ⟨(some 21), .buildSlice 32 3 #[(0, (.const (.int .i64 0))), (1, (.const (.int .i64 999))), (2, (.const (.int .i64 1000)))], none⟩,
    ⟨(some 22), .call ⟨.value (.func 67), #[(.tmp 20), (.tmp 21)], #[54, 32]⟩, none⟩,
    ⟨(some 23), .fieldAddr 51 (.tmp 5) 0, none⟩,
    ⟨none, .store 3 (.tmp 23) (.tmp 22), none⟩] [4, 5])
  (.seq (.reg [⟨(some 25), .binOp .eql 3 (.tmp 17) (.const (.int .i64 1)) 3, none⟩,
    ⟨(some 24), .assign (.tmp 25), none⟩] [0, 4, 5, 17, 24])
  (.cond (.tmp 24) (.reg [⟨(some 26), .move (.tmp 0), none⟩,
    ⟨(some 27), .buildSlice 32 2 #[(0, (.const (.int .i64 1839))), (1, (.const (.int .i64 2101)))], none⟩,
    ⟨(some 28), .call ⟨.value (.func 67), #[(.tmp 26), (.tmp 27)], #[54, 32]⟩, none⟩,
    ⟨(some 29), .fieldAddr 51 (.tmp 5) 1, none⟩,
    ⟨none, .store 3 (.tmp 29) (.tmp 28), none⟩] [4, 5])
  (.seq (.reg [⟨(some 31), .binOp .eql 3 (.tmp 17) (.const (.int .i64 2)) 3, none⟩,
    ⟨(some 30), .assign (.tmp 31), none⟩] [0, 4, 5, 30])
  (.cond (.tmp 30) (.reg [⟨(some 32), .move (.tmp 0), none⟩,
    ⟨(some 33), .buildSlice 88 2 #[(0, (.const (.string ⟨#[]⟩))), (1, (.const (.string ⟨#[66, 101, 114, 110]⟩)))], none⟩,
    ⟨(some 34), .call ⟨.value (.func 78), #[(.tmp 32), (.tmp 33)], #[54, 88]⟩, none⟩,
    ⟨(some 35), .fieldAddr 51 (.tmp 5) 2, none⟩,
    ⟨none, .store 9 (.tmp 35) (.tmp 34), none⟩] [4, 5])
  .skip))))))))
  (.seq (.reg [⟨(some 36), .load 51 (.tmp 5), none⟩,
    ⟨none, .store 51 (.tmp 4) (.tmp 36), none⟩] [4])
  .ret))))
theorem __spec_l1Cur__sighting13_k : fnOk Try.prog (fun _ => false) 65 = some (__spec_l1Cur__sighting13_c.strip, 37, [.cell 4 51]) := by kernel_rfl
/-- (*loop.example/g01062/spec.l1Cur).one: number 66, params [0, 1] -/
def __spec_l1Cur__one_c : ACode := (.seq (.reg [⟨(some 4), .assign (.const (.bool false)), none⟩] [0, 1])
  (.seq (.reg [⟨(some 5), .move (.tmp 0), none⟩,
    ⟨(some 6), .move (.tmp 1), none⟩,
    ⟨(some 7), .call ⟨.value (.func 64), #[(.tmp 5), (.tmp 6)], #[54, 3]⟩, none⟩,
    ⟨(some 8), .binOp .eql 3 (.tmp 7) (.const (.int .i64 0)) 3, none⟩,
    ⟨(some 4), .assign (.tmp 8), none⟩] [4])
  .ret))
theorem __spec_l1Cur__one_k : fnOk Try.prog (fun _ => false) 66 = some (__spec_l1Cur__one_c.strip, 9, [.tmp 4]) := by kernel_rfl
/-- (*loop.example/g01062/spec.l1Cur).among: number 67, params [0, 1] -/
def __spec_l1Cur__among_c : ACode := (.seq (.reg [⟨(some 4), .assign (.const (.int .i64 0)), none⟩] [0, 1])
  (.seq (.reg [⟨(some 5), .move (.tmp 1), none⟩,
    ⟨(some 6), .move (.tmp 0), none⟩,
    ⟨(some 7), .move (.tmp 1), none⟩,
    ⟨(some 8), .call ⟨.builtin .len, #[(.tmp 7)], #[32]⟩, none⟩,
    ⟨(some 9), .call ⟨.value (.func 64), #[(.tmp 6), (.tmp 8)], #[54, 3]⟩, none⟩,
    ⟨(some 10), .indexAddr 32 (.tmp 5) (.tmp 9), none⟩,
    ⟨(some 11), .load 3 (.tmp 10), none⟩,
    ⟨(some 4), .assign (.tmp 11), none⟩] [4])
  .ret))
theorem __spec_l1Cur__among_k : fnOk Try.prog (fun _ => false) 67 = some (__spec_l1Cur__among_c.strip, 12, [.tmp 4]) := by kernel_rfl
/-- (*loop.example/g01062/spec.l1Cur).next: number 77, params [0] -/
def __spec_l1Cur__next_c : ACode := (.seq (.reg [⟨(some 2), .assign (.const (.int .i64 0)), none⟩] [0])
  (.seq (.reg [⟨(some 3), .assign (.const (.int .i64 0)), none⟩] [0, 3])
  (.seq (.seq (.regQ [⟨(some 4), .move (.tmp 0), none⟩,
    ⟨(some 5), .nilCheck (.tmp 4), none⟩,
    ⟨(some 6), .fieldAddr 57 (.tmp 5) 1, none⟩,
    ⟨(some 7), .load 3 (.tmp 6), none⟩,
    ⟨(some 8), .move (.tmp 0), none⟩,
    ⟨(some 9), .nilCheck (.tmp 8), none⟩,
    ⟨(some 10), .fieldAddr 57 (.tmp 9) 0, none⟩,
    ⟨(some 11), .load 22 (.tmp 10), none⟩,
    ⟨(some 12), .call ⟨.builtin .len, #[(.tmp 11)], #[22]⟩, none⟩,
    ⟨(some 13), .binOp .lss 3 (.tmp 7) (.tmp 12) 3, none⟩] [0, 3, 13])
  (.cond (.tmp 13) (.regQ [⟨(some 14), .move (.tmp 0), none⟩,
    ⟨(some 15), .nilCheck (.tmp 14), none⟩,
    ⟨(some 16), .fieldAddr 57 (.tmp 15) 0, none⟩,
    ⟨(some 17), .load 22 (.tmp 16), none⟩,
    ⟨(some 18), .move (.tmp 0), none⟩,
    ⟨(some 19), .nilCheck (.tmp 18), none⟩,
    ⟨(some 20), .fieldAddr 57 (.tmp 19) 1, none⟩,
    ⟨(some 21), .load 3 (.tmp 20), none⟩,
    ⟨(some 22), .indexAddr 22 (.tmp 17) (.tmp 21), none⟩,
    ⟨(some 23), .load 5 (.tmp 22), none⟩,
    ⟨(some 24), .convert 5 3 (.tmp 23), none⟩,
    ⟨(some 3), .assign (.tmp 24), none⟩] [0, 3])
  .skip))
  (.seq (.reg [⟨(some 25), .move (.tmp 0), none⟩,
    ⟨(some 26), .nilCheck (.tmp 25), none⟩,
    ⟨(some 27), .fieldAddr 57 (.tmp 26) 1, none⟩,
    ⟨(some 28), .load 3 (.tmp 27), none⟩,
    ⟨(some 29), .binOp .add 3 (.tmp 28) (.const (.int .i64 1)) 3, none⟩,
    ⟨(some 30), .nilCheck (.tmp 25), none⟩,
    ⟨(some 31), .fieldAddr 57 (.tmp 30) 1, none⟩,
    ⟨none, .store 3 (.tmp 31) (.tmp 29), none⟩] [0, 3])
  (.seq (.reg [⟨(some 32), .move (.tmp 0), none⟩,
    ⟨(some 33), .move (.tmp 0), none⟩,
    ⟨(some 34), .nilCheck (.tmp 33), none⟩,
    ⟨(some 35), .fieldAddr 57 (.tmp 34) 2, none⟩,
    ⟨(some 36), .load 55 (.tmp 35), none⟩,
    ⟨(some 37), .binOp .mul 55 (.tmp 36) (.const (.int .u64 6364136223846793005)) 55, none⟩,
    ⟨(some 38), .move (.tmp 3), none⟩,
    ⟨(some 39), .convert 3 55 (.tmp 38), none⟩,
    ⟨(some 40), .binOp .add 55 (.tmp 37) (.tmp 39) 55, none⟩,
    ⟨(some 41), .binOp .add 55 (.tmp 40) (.const (.int .u64 381907)) 55, none⟩,
    ⟨(some 42), .nilCheck (.tmp 32), none⟩,
    ⟨(some 43), .fieldAddr 57 (.tmp 42) 2, none⟩,
    ⟨none, .store 55 (.tmp 43) (.tmp 41), none⟩] [0, 3])
  (.seq (.seq (.regQ [⟨(some 44), .move (.tmp 0), none⟩,
    ⟨(some 45), .nilCheck (.tmp 44), none⟩,
    ⟨(some 46), .fieldAddr 57 (.tmp 45) 1, none⟩,
    ⟨(some 47), .load 3 (.tmp 46), none⟩,
    ⟨(some 48), .move (.tmp 0), none⟩,
    ⟨(some 49), .nilCheck (.tmp 48), none⟩,
    ⟨(some 50), .fieldAddr 57 (.tmp 49) 0, none⟩,
    ⟨(some 51), .load 22 (.tmp 50), none⟩,
    ⟨(some 52), .call ⟨.builtin .len, #[(.tmp 51)], #[22]⟩, none⟩,
    ⟨(some 53), .binOp .leq 3 (.tmp 47) (.tmp 52) 3, none⟩] [0, 3, 53])
  (.cond (.tmp 53) (.seq (.reg [⟨(some 54), .move (.tmp 3), none⟩,
    ⟨(some 2), .assign (.tmp 54), none⟩] [2])
  .ret)
  .skip))
  (.seq (.reg [⟨(some 55), .move (.tmp 0), none⟩,
    ⟨(some 56), .nilCheck (.tmp 55), none⟩,
    ⟨(some 57), .fieldAddr 57 (.tmp 56) 2, none⟩,
    ⟨(some 58), .load 55 (.tmp 57), none⟩,
    ⟨(some 59), .binOp .shr 55 (.tmp 58) (.const (.int .u64 40)) 83, none⟩,
    ⟨(some 60), .binOp .and 55 (.tmp 59) (.const (.int .u64 255)) 55, none⟩,
    ⟨(some 61), .convert 55 3 (.tmp 60), none⟩,
    ⟨(some 2), .assign (.tmp 61), none⟩] [2])
  .ret)))))))
theorem __spec_l1Cur__next_k : fnOk Try.prog (fun _ => false) 77 = some (__spec_l1Cur__next_c.strip, 62, [.tmp 2]) := by kernel_rfl
/-- (*loop.example/g01062/spec.l1Cur).of: number 78, params [0, 1] -/
def __spec_l1Cur__of_c : ACode := (.seq (.reg [⟨(some 4), .assign (.const (.string ⟨#[]⟩)), none⟩] [0, 1])
  (.seq (.reg [⟨(some 5), .move (.tmp 1), none⟩,
    ⟨(some 6), .move (.tmp 0), none⟩,
    ⟨(some 7), .move (.tmp 1), none⟩,
    ⟨(some 8), .call ⟨.builtin .len, #[(.tmp 7)], #[88]⟩, none⟩,
    ⟨(some 9), .call ⟨.value (.func 64), #[(.tmp 6), (.tmp 8)], #[54, 3]⟩, none⟩,
    ⟨(some 10), .indexAddr 88 (.tmp 5) (.tmp 9), none⟩,
    ⟨(some 11), .load 9 (.tmp 10), none⟩,
    ⟨(some 4), .assign (.tmp 11), none⟩] [4])
  .ret))
theorem __spec_l1Cur__of_k : fnOk Try.prog (fun _ => false) 78 = some (__spec_l1Cur__of_c.strip, 12, [.tmp 4]) := by kernel_rfl
/-- head: [0, 3, 4] -/
def __spec_l1Cur__traits13_l0 : ACode := (.seq (.seq (.reg [⟨(some 8), .move (.tmp 4), none⟩,
    ⟨(some 9), .binOp .gtr 3 (.tmp 8) (.const (.int .i64 0)) 3, none⟩] [0, 3, 4, 9])
  (.cond (.tmp 9) .skip
  (.exit 0)))
  (.seq (.block 1 (.reg [⟨(some 12), .move (.tmp 3), none⟩,
    ⟨(some 13), .move (.tmp 0), none⟩,
    ⟨(some 14), .buildSlice 32 6 #[(0, (.const (.int .i64 1))), (1, (.const (.int .i64 2))), (2, (.const (.int .i64 3))), (3, (.const (.int .i64 4))), (4, (.const (.int .i64 5))), (5, (.const (.int .i64 50)))], none⟩,
    ⟨(some 15), .call ⟨.value (.func 67), #[(.tmp 13), (.tmp 14)], #[54, 32]⟩, none⟩,
    ⟨(some 16), .call ⟨.value (.func 62), #[(.tmp 12), (.tmp 15)], #[32, 3]⟩, none⟩,
    ⟨(some 3), .assign (.tmp 16), none⟩] [0, 3, 4]))
  (.reg [⟨(some 10), .move (.tmp 4), none⟩,
    ⟨(some 11), .binOp .sub 3 (.tmp 10) (.const (.int .i64 1)) 3, none⟩,
    ⟨(some 4), .assign (.tmp 11), none⟩] [0, 3, 4])))
/-- (*loop.example/g01062/spec.l1Cur).traits13: number 79, params [0] -/
def __spec_l1Cur__traits13_c : ACode := (.seq (.reg [⟨(some 2), .assign (.const (.slice none 0 0)), none⟩] [0])
  (.seq (.reg [⟨(some 5), .buildSlice 32 0 #[], none⟩,
    ⟨(some 3), .assign (.tmp 5), none⟩] [0, 3])
  (.seq (.seq (.reg [⟨(some 6), .move (.tmp 0), none⟩,
    ⟨(some 7), .call ⟨.value (.func 64), #[(.tmp 6), (.const (.int .i64 5))], #[54, 3]⟩, none⟩,
    ⟨(some 4), .assign (.tmp 7), none⟩] [0, 3, 4])
  (.block 0 (.loop __spec_l1Cur__traits13_l0)))
  (.seq (.seq (.reg [⟨(some 17), .move (.tmp 0), none⟩,
    ⟨(some 18), .call ⟨.value (.func 66), #[(.tmp 17), (.const (.int .i64 60))], #[54, 3]⟩, none⟩] [0, 3, 18])
  (.cond (.tmp 18) (.reg [⟨(some 19), .move (.tmp 3), none⟩,
    ⟨(some 20), .move (.tmp 0), none⟩,
    ⟨(some 21), .buildSlice 32 3 #[(0, (.const (.int .i64 0))), (1, (.const (.int .i64 51))), (2, (.const (.int .i64 1)))], none⟩,
    ⟨(some 22), .call ⟨.value (.func 67), #[(.tmp 20), (.tmp 21)], #[54, 32]⟩, none⟩,
    ⟨(some 23), .buildSlice 32 1 #[(0, (.tmp 22))], none⟩,
    ⟨(some 24), .call ⟨.builtin .append, #[(.tmp 19), (.tmp 23)], #[32, 32]⟩, none⟩,
    ⟨(some 3), .assign (.tmp 24), none⟩] [0, 3])
  .skip))
  (.seq (.seq (.reg [⟨(some 25), .move (.tmp 0), none⟩,
    ⟨(some 26), .call ⟨.value (.func 66), #[(.tmp 25), (.const (.int .i64 40))], #[54, 3]⟩, none⟩] [0, 3, 26])
  (.cond (.tmp 26) (.reg [⟨(some 27), .buildSlice 32 9 #[(0, (.const (.int .i64 1))), (1, (.const (.int .i64 2))), (2, (.const (.int .i64 3))), (3, (.const (.int .i64 4))), (4, (.const (.int .i64 5))), (5, (.const (.int .i64 6))), (6, (.const (.int .i64 7))), (7, (.const (.int .i64 8))), (8, (.const (.int .i64 9)))], none⟩,
    ⟨(some 28), .move (.tmp 0), none⟩,
    ⟨(some 29), .call ⟨.value (.func 64), #[(.tmp 28), (.const (.int .i64 2))], #[54, 3]⟩, none⟩,
    ⟨(some 30), .binOp .add 3 (.const (.int .i64 8)) (.tmp 29) 3, none⟩,
    ⟨(some 31), .slice 32 (.tmp 27) none (some (.tmp 30)) none, none⟩,
    ⟨(some 3), .assign (.tmp 31), none⟩] [3])
  .skip))
  (.seq (.reg [⟨(some 32), .move (.tmp 3), none⟩,
    ⟨(some 2), .assign (.tmp 32), none⟩] [2])
  .ret))))))
theorem __spec_l1Cur__traits13_k : fnOk Try.prog (fun _ => false) 79 = some (__spec_l1Cur__traits13_c.strip, 33, [.tmp 2]) := by kernel_rfl
end Go.Proofs.Ytafenginfojcmaa
