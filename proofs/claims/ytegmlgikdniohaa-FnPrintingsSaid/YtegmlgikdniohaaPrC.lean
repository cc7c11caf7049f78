/- Printed by a program of ours: the functions' abstract code and facts on their types. -/
import Derived.Test.YtegmlgikdniohaaAbsP
import Derived.Test.YtegmlgikdniohaaProg
import Derived.KernelRfl
set_option maxRecDepth 8000
namespace Go.Proofs.Ytegmlgikdniohaa
open Go Go.RowKit
@[simp] theorem dk_3 : dK Try.prog 3 = some (.int .i64) := by kernel_rfl
@[simp] theorem ty_3 : tyK Try.prog 3 = some .cell := by kernel_rfl
@[simp] theorem zero_3 : zeroK Try.prog 3 = some [.int .i64 0] := by kernel_rfl
@[simp] theorem dk_4 : dK Try.prog 4 = some .bool := by kernel_rfl
@[simp] theorem ty_4 : tyK Try.prog 4 = some .cell := by kernel_rfl
@[simp] theorem zero_4 : zeroK Try.prog 4 = some [.bool false] := by kernel_rfl
@[simp] theorem dk_5 : dK Try.prog 5 = some (.int .u8) := by kernel_rfl
@[simp] theorem ty_5 : tyK Try.prog 5 = some .cell := by kernel_rfl
@[simp] theorem zero_5 : zeroK Try.prog 5 = some [.int .u8 0] := by kernel_rfl
@[simp] theorem sl_22 : slK Try.prog 22 = some (5, 1, 1) := by kernel_rfl
@[simp] theorem dk_22 : dK Try.prog 22 = some (.bytes 5) := by kernel_rfl
@[simp] theorem ty_22 : tyK Try.prog 22 = some .cell := by kernel_rfl
@[simp] theorem zero_22 : zeroK Try.prog 22 = some [.nils] := by kernel_rfl
@[simp] theorem sl_24 : slK Try.prog 24 = some (35, 5, 40) := by kernel_rfl
@[simp] theorem dk_24 : dK Try.prog 24 = some .slc := by kernel_rfl
@[simp] theorem ty_24 : tyK Try.prog 24 = some .cell := by kernel_rfl
@[simp] theorem zero_24 : zeroK Try.prog 24 = some [.nils] := by kernel_rfl
@[simp] theorem sl_27 : slK Try.prog 27 = some (3, 1, 8) := by kernel_rfl
@[simp] theorem dk_27 : dK Try.prog 27 = some .slc := by kernel_rfl
@[simp] theorem ty_27 : tyK Try.prog 27 = some .cell := by kernel_rfl
@[simp] theorem zero_27 : zeroK Try.prog 27 = some [.nils] := by kernel_rfl
@[simp] theorem ty_35 : tyK Try.prog 35 = some (.obj 5) := by kernel_rfl
@[simp] theorem fld_35_0 : fldK Try.prog 35 0 = some 0 := by kernel_rfl
@[simp] theorem fld_35_1 : fldK Try.prog 35 1 = some 1 := by kernel_rfl
@[simp] theorem fld_35_2 : fldK Try.prog 35 2 = some 2 := by kernel_rfl
@[simp] theorem fld_35_3 : fldK Try.prog 35 3 = some 3 := by kernel_rfl
@[simp] theorem fld_35_4 : fldK Try.prog 35 4 = some 4 := by kernel_rfl
@[simp] theorem eqk_35 : eqKs Try.prog 35 = some [0, 0, 0, 0, 0] := by kernel_rfl
@[simp] theorem pl_35 : plK Try.prog 35 = some (some [(0, 1), (1, 1), (2, 1), (3, 1), (4, 1)]) := by kernel_rfl
@[simp] theorem zero_35 : zeroK Try.prog 35 = some [.int .i64 0, .int .i64 0, .int .i64 0, .int .i64 0, .int .i64 0] := by kernel_rfl
/-- head: [0, 3, 4, 5, 6, 14, 15] -/
def laws_FnPrintings_l0 : ACode := (.seq (.seq (.reg [⟨(some 117), .move (.tmp 15), none⟩,
    ⟨(some 118), .move (.tmp 3), none⟩,
    ⟨(some 119), .call ⟨.builtin .len, #[(.tmp 118)], #[24]⟩, none⟩,
    ⟨(some 120), .binOp .lss 3 (.tmp 117) (.tmp 119) 3, none⟩] [0, 3, 4, 5, 6, 14, 15, 120])
  (.cond (.tmp 120) .skip
  (.exit 0)))
  (.seq (.block 1 (.seq (.reg [⟨(some 123), .move (.tmp 6), none⟩,
    ⟨(some 124), .move (.tmp 3), none⟩,
    ⟨(some 125), .move (.tmp 15), none⟩,
    ⟨(some 126), .indexAddr 24 (.tmp 124) (.tmp 125), none⟩,
    ⟨(some 127), .fieldAddr 35 (.tmp 126) 0, none⟩,
    ⟨(some 128), .load 3 (.tmp 127), none⟩,
    ⟨(some 129), .call ⟨.value (.func 11), #[(.tmp 123), (.tmp 128)], #[27, 3]⟩, none⟩] [0, 3, 4, 5, 6, 14, 15, 129])
  (.cond (.tmp 129) (.reg [⟨(some 130), .move (.tmp 14), none⟩,
    ⟨(some 131), .move (.tmp 3), none⟩,
    ⟨(some 132), .move (.tmp 15), none⟩,
    ⟨(some 133), .indexAddr 24 (.tmp 131) (.tmp 132), none⟩,
    ⟨(some 134), .fieldAddr 35 (.tmp 133) 2, none⟩,
    ⟨(some 135), .load 3 (.tmp 134), none⟩,
    ⟨(some 136), .binOp .add 3 (.tmp 130) (.tmp 135) 3, none⟩,
    ⟨(some 14), .assign (.tmp 136), none⟩] [0, 3, 4, 5, 6, 14, 15])
  .skip)))
  (.reg [⟨(some 121), .move (.tmp 15), none⟩,
    ⟨(some 122), .binOp .add 3 (.tmp 121) (.const (.int .i64 1)) 3, none⟩,
    ⟨(some 15), .assign (.tmp 122), none⟩] [0, 3, 4, 5, 6, 14, 15])))
/-- head: [0, 3, 4, 5, 6, 14, 16] -/
def laws_FnPrintings_l1 : ACode := (.seq (.seq (.reg [⟨(some 137), .move (.tmp 16), none⟩,
    ⟨(some 138), .move (.tmp 3), none⟩,
    ⟨(some 139), .call ⟨.builtin .len, #[(.tmp 138)], #[24]⟩, none⟩,
    ⟨(some 140), .binOp .lss 3 (.tmp 137) (.tmp 139) 3, none⟩] [0, 3, 4, 5, 6, 14, 16, 140])
  (.cond (.tmp 140) .skip
  (.exit 2)))
  (.seq (.block 3 (.seq (.reg [⟨(some 144), .move (.tmp 3), none⟩,
    ⟨(some 145), .move (.tmp 3), none⟩,
    ⟨(some 146), .move (.tmp 16), none⟩,
    ⟨(some 147), .indexAddr 24 (.tmp 145) (.tmp 146), none⟩,
    ⟨(some 148), .fieldAddr 35 (.tmp 147) 0, none⟩,
    ⟨(some 149), .load 3 (.tmp 148), none⟩,
    ⟨(some 150), .move (.tmp 4), none⟩,
    ⟨(some 151), .move (.tmp 5), none⟩,
    ⟨(some 152), .call ⟨.value (.func 12), #[(.tmp 144), (.tmp 149), (.tmp 150), (.tmp 151)], #[24, 3, 3, 3]⟩, none⟩,
    ⟨(some 143), .move (.tmp 152), none⟩,
    ⟨(some 153), .extract (.tmp 143) 0, none⟩,
    ⟨(some 154), .extract (.tmp 143) 1, none⟩,
    ⟨(some 155), .extract (.tmp 143) 2, none⟩,
    ⟨(some 17), .assign (.tmp 153), none⟩,
    ⟨(some 18), .assign (.tmp 154), none⟩,
    ⟨(some 19), .assign (.tmp 155), none⟩] [0, 3, 4, 5, 6, 14, 16, 17, 18, 19])
  (.seq (.reg [⟨(some 156), .move (.tmp 19), none⟩,
    ⟨(some 157), .unOp .not 4 (.tmp 156), none⟩,
    ⟨(some 158), .move (.tmp 157), none⟩,
    ⟨(some 159), .move (.tmp 6), (some (some 158, false))⟩,
    ⟨(some 160), .move (.tmp 3), (some (some 158, false))⟩,
    ⟨(some 161), .move (.tmp 16), (some (some 158, false))⟩,
    ⟨(some 162), .indexAddr 24 (.tmp 160) (.tmp 161), (some (some 158, false))⟩,
    ⟨(some 163), .fieldAddr 35 (.tmp 162) 0, (some (some 158, false))⟩,
    ⟨(some 164), .load 3 (.tmp 163), (some (some 158, false))⟩,
    ⟨(some 165), .call ⟨.value (.func 11), #[(.tmp 159), (.tmp 164)], #[27, 3]⟩, (some (some 158, false))⟩,
    ⟨(some 166), .unOp .not 4 (.tmp 165), (some (some 158, false))⟩,
    ⟨(some 167), .move (.tmp 166), (some (some 158, false))⟩,
    ⟨(some 168), .move (.tmp 17), (some (some 167, true))⟩,
    ⟨(some 169), .binOp .neq 3 (.tmp 168) (.const (.int .i64 0)) 3, (some (some 167, true))⟩,
    ⟨(some 170), .pick (.tmp 167) (.tmp 169) (.const (.bool false)), (some (some 158, false))⟩,
    ⟨(some 171), .pick (.tmp 158) (.const (.bool true)) (.tmp 170), none⟩,
    ⟨(some 172), .move (.tmp 171), none⟩,
    ⟨(some 173), .move (.tmp 6), (some (some 172, false))⟩,
    ⟨(some 174), .move (.tmp 3), (some (some 172, false))⟩,
    ⟨(some 175), .move (.tmp 16), (some (some 172, false))⟩,
    ⟨(some 176), .indexAddr 24 (.tmp 174) (.tmp 175), (some (some 172, false))⟩,
    ⟨(some 177), .fieldAddr 35 (.tmp 176) 0, (some (some 172, false))⟩,
    ⟨(some 178), .load 3 (.tmp 177), (some (some 172, false))⟩,
    ⟨(some 179), .call ⟨.value (.func 11), #[(.tmp 173), (.tmp 178)], #[27, 3]⟩, (some (some 172, false))⟩,
    ⟨(some 180), .move (.tmp 179), (some (some 172, false))⟩,
    ⟨(some 181), .move (.tmp 17), (some (some 180, true))⟩,
    ⟨(some 182), .move (.tmp 14), (some (some 180, true))⟩,
    ⟨(some 183), .binOp .mul 3 (.tmp 181) (.tmp 182) 3, (some (some 180, true))⟩,
    ⟨(some 184), .move (.tmp 3), (some (some 180, true))⟩,
    ⟨(some 185), .move (.tmp 16), (some (some 180, true))⟩,
    ⟨(some 186), .indexAddr 24 (.tmp 184) (.tmp 185), (some (some 180, true))⟩,
    ⟨(some 187), .fieldAddr 35 (.tmp 186) 2, (some (some 180, true))⟩,
    ⟨(some 188), .load 3 (.tmp 187), (some (some 180, true))⟩,
    ⟨(some 189), .move (.tmp 18), (some (some 180, true))⟩,
    ⟨(some 190), .binOp .mul 3 (.tmp 188) (.tmp 189) 3, (some (some 180, true))⟩,
    ⟨(some 191), .binOp .neq 3 (.tmp 183) (.tmp 190) 3, (some (some 180, true))⟩,
    ⟨(some 192), .pick (.tmp 180) (.tmp 191) (.const (.bool false)), (some (some 172, false))⟩,
    ⟨(some 193), .pick (.tmp 172) (.const (.bool true)) (.tmp 192), none⟩] [0, 3, 4, 5, 6, 14, 16, 193])
  (.cond (.tmp 193) (.seq (.reg [⟨(some 2), .assign (.const (.bool false)), none⟩] [2])
  .ret)
  .skip))))
  (.reg [⟨(some 141), .move (.tmp 16), none⟩,
    ⟨(some 142), .binOp .add 3 (.tmp 141) (.const (.int .i64 1)) 3, none⟩,
    ⟨(some 16), .assign (.tmp 142), none⟩] [0, 3, 4, 5, 6, 14, 16])))
/-- head: [0, 3, 30, 31, 32, 33, 38, 39, 40] -/
def laws_FnPrintings_l2 : ACode := (.seq (.seq (.reg [⟨(some 270), .move (.tmp 40), none⟩,
    ⟨(some 271), .move (.tmp 30), none⟩,
    ⟨(some 272), .call ⟨.builtin .len, #[(.tmp 271)], #[24]⟩, none⟩,
    ⟨(some 273), .binOp .lss 3 (.tmp 270) (.tmp 272) 3, none⟩] [0, 3, 30, 31, 32, 33, 38, 39, 40, 273])
  (.cond (.tmp 273) .skip
  (.exit 4)))
  (.seq (.block 5 (.seq (.reg [⟨(some 276), .move (.tmp 30), none⟩,
    ⟨(some 277), .move (.tmp 40), none⟩,
    ⟨(some 278), .indexAddr 24 (.tmp 276) (.tmp 277), none⟩,
    ⟨(some 279), .fieldAddr 35 (.tmp 278) 0, none⟩,
    ⟨(some 280), .load 3 (.tmp 279), none⟩,
    ⟨(some 281), .move (.tmp 31), none⟩,
    ⟨(some 282), .binOp .eql 3 (.tmp 280) (.tmp 281) 3, none⟩,
    ⟨(some 283), .move (.tmp 282), none⟩,
    ⟨(some 284), .move (.tmp 32), (some (some 283, true))⟩,
    ⟨(some 285), .move (.tmp 38), (some (some 283, true))⟩,
    ⟨(some 286), .binOp .mul 3 (.tmp 284) (.tmp 285) 3, (some (some 283, true))⟩,
    ⟨(some 287), .move (.tmp 30), (some (some 283, true))⟩,
    ⟨(some 288), .move (.tmp 40), (some (some 283, true))⟩,
    ⟨(some 289), .indexAddr 24 (.tmp 287) (.tmp 288), (some (some 283, true))⟩,
    ⟨(some 290), .fieldAddr 35 (.tmp 289) 2, (some (some 283, true))⟩,
    ⟨(some 291), .load 3 (.tmp 290), (some (some 283, true))⟩,
    ⟨(some 292), .move (.tmp 33), (some (some 283, true))⟩,
    ⟨(some 293), .binOp .mul 3 (.tmp 291) (.tmp 292) 3, (some (some 283, true))⟩,
    ⟨(some 294), .binOp .neq 3 (.tmp 286) (.tmp 293) 3, (some (some 283, true))⟩,
    ⟨(some 295), .pick (.tmp 283) (.tmp 294) (.const (.bool false)), none⟩] [0, 3, 30, 31, 32, 33, 38, 39, 40, 295])
  (.cond (.tmp 295) (.seq (.reg [⟨(some 2), .assign (.const (.bool false)), none⟩] [2])
  .ret)
  .skip)))
  (.reg [⟨(some 274), .move (.tmp 40), none⟩,
    ⟨(some 275), .binOp .add 3 (.tmp 274) (.const (.int .i64 1)) 3, none⟩,
    ⟨(some 40), .assign (.tmp 275), none⟩] [0, 3, 30, 31, 32, 33, 38, 39, 40])))
/-- slots: [3, 43, 44, 45, 46] -/
def laws_FnPrintings_t19 : ACode := (.cut [3, 43, 44, 45, 46] (.seq (.reg [⟨(some 315), .move (.tmp 43), none⟩,
    ⟨(some 316), .move (.tmp 45), none⟩,
    ⟨(some 317), .binOp .eql 3 (.tmp 315) (.tmp 316) 3, none⟩,
    ⟨(some 318), .move (.tmp 317), none⟩,
    ⟨(some 319), .move (.tmp 44), (some (some 318, true))⟩,
    ⟨(some 320), .move (.tmp 46), (some (some 318, true))⟩,
    ⟨(some 321), .binOp .eql 4 (.tmp 319) (.tmp 320) 4, (some (some 318, true))⟩,
    ⟨(some 322), .pick (.tmp 318) (.tmp 321) (.const (.bool false)), none⟩,
    ⟨(some 323), .move (.tmp 322), none⟩,
    ⟨(some 324), .move (.tmp 3), (some (some 323, true))⟩,
    ⟨(some 325), .call ⟨.value (.func 21), #[(.tmp 324)], #[24]⟩, (some (some 323, true))⟩,
    ⟨(some 326), .move (.tmp 3), (some (some 323, true))⟩,
    ⟨(some 327), .call ⟨.value (.func 22), #[(.tmp 326)], #[24]⟩, (some (some 323, true))⟩,
    ⟨(some 328), .binOp .eql 4 (.tmp 325) (.tmp 327) 4, (some (some 323, true))⟩,
    ⟨(some 329), .pick (.tmp 323) (.tmp 328) (.const (.bool false)), none⟩,
    ⟨(some 2), .assign (.tmp 329), none⟩] [2])
  .ret))
/-- slots: [3, 41, 42, 43, 44] -/
def laws_FnPrintings_t18 : ACode := (.cut [3, 41, 42, 43, 44] (.seq (.reg [⟨(some 310), .move (.tmp 41), none⟩,
    ⟨(some 311), .move (.tmp 42), none⟩,
    ⟨(some 312), .call ⟨.value (.func 20), #[(.tmp 310), (.tmp 311)], #[24, 3]⟩, none⟩,
    ⟨(some 309), .move (.tmp 312), none⟩,
    ⟨(some 313), .extract (.tmp 309) 0, none⟩,
    ⟨(some 314), .extract (.tmp 309) 1, none⟩,
    ⟨(some 45), .assign (.tmp 313), none⟩,
    ⟨(some 46), .assign (.tmp 314), none⟩] [3, 43, 44, 45, 46])
  laws_FnPrintings_t19))
/-- slots: [3, 41, 42] -/
def laws_FnPrintings_t17 : ACode := (.cut [3, 41, 42] (.seq (.reg [⟨(some 304), .move (.tmp 41), none⟩,
    ⟨(some 305), .move (.tmp 42), none⟩,
    ⟨(some 306), .call ⟨.value (.func 18), #[(.tmp 304), (.tmp 305)], #[24, 3]⟩, none⟩,
    ⟨(some 303), .move (.tmp 306), none⟩,
    ⟨(some 307), .extract (.tmp 303) 0, none⟩,
    ⟨(some 308), .extract (.tmp 303) 1, none⟩,
    ⟨(some 43), .assign (.tmp 307), none⟩,
    ⟨(some 44), .assign (.tmp 308), none⟩] [3, 41, 42, 43, 44])
  laws_FnPrintings_t18))
/-- slots: [0, 3] -/
def laws_FnPrintings_t16 : ACode := (.cut [0, 3] (.seq (.reg [⟨(some 299), .move (.tmp 0), none⟩,
    ⟨(some 300), .call ⟨.value (.func 19), #[(.tmp 299)], #[22]⟩, none⟩,
    ⟨(some 298), .move (.tmp 300), none⟩,
    ⟨(some 301), .extract (.tmp 298) 0, none⟩,
    ⟨(some 302), .extract (.tmp 298) 1, none⟩,
    ⟨(some 41), .assign (.tmp 301), none⟩,
    ⟨(some 42), .assign (.tmp 302), none⟩] [3, 41, 42])
  laws_FnPrintings_t17))
/-- slots: [0, 3, 30, 31, 32, 33, 34] -/
def laws_FnPrintings_t15 : ACode := (.cut [0, 3, 30, 31, 32, 33, 34] (.seq (.seq (.reg [⟨(some 264), .move (.tmp 34), none⟩] [0, 3, 30, 31, 32, 33, 264])
  (.cond (.tmp 264) (.seq (.reg [⟨(some 266), .move (.tmp 30), none⟩,
    ⟨(some 267), .call ⟨.value (.func 18), #[(.tmp 266), (.const (.int .i64 4000))], #[24, 3]⟩, none⟩,
    ⟨(some 265), .move (.tmp 267), none⟩,
    ⟨(some 268), .extract (.tmp 265) 0, none⟩,
    ⟨(some 269), .extract (.tmp 265) 1, none⟩,
    ⟨(some 38), .assign (.tmp 268), none⟩,
    ⟨(some 39), .assign (.tmp 269), none⟩] [0, 3, 30, 31, 32, 33, 38, 39])
  (.seq (.seq (.reg [⟨(some 40), .assign (.const (.int .i64 0)), none⟩] [0, 3, 30, 31, 32, 33, 38, 39, 40])
  (.block 4 (.loop laws_FnPrintings_l2)))
  (.seq (.reg [⟨(some 296), .move (.tmp 39), none⟩,
    ⟨(some 297), .unOp .not 4 (.tmp 296), none⟩] [0, 3, 297])
  (.cond (.tmp 297) (.seq (.reg [⟨(some 2), .assign (.const (.bool false)), none⟩] [2])
  .ret)
  .skip))))
  .skip))
  laws_FnPrintings_t16))
/-- slots: [0, 3, 30, 31, 32, 33, 34] -/
def laws_FnPrintings_t14 : ACode := (.cut [0, 3, 30, 31, 32, 33, 34] (.seq (.seq (.reg [⟨(some 245), .move (.tmp 30), none⟩,
    ⟨(some 246), .move (.tmp 31), none⟩,
    ⟨(some 247), .call ⟨.value (.func 17), #[(.tmp 245), (.tmp 246)], #[24, 3]⟩, none⟩,
    ⟨(some 244), .move (.tmp 247), none⟩,
    ⟨(some 248), .extract (.tmp 244) 0, none⟩,
    ⟨(some 249), .extract (.tmp 244) 1, none⟩,
    ⟨(some 250), .extract (.tmp 244) 2, none⟩,
    ⟨(some 35), .assign (.tmp 248), none⟩,
    ⟨(some 36), .assign (.tmp 249), none⟩,
    ⟨(some 37), .assign (.tmp 250), none⟩] [0, 3, 30, 31, 32, 33, 34, 35, 36, 37])
  (.seq (.reg [⟨(some 251), .move (.tmp 32), none⟩,
    ⟨(some 252), .move (.tmp 35), none⟩,
    ⟨(some 253), .binOp .neq 3 (.tmp 251) (.tmp 252) 3, none⟩,
    ⟨(some 254), .move (.tmp 253), none⟩,
    ⟨(some 255), .move (.tmp 33), (some (some 254, false))⟩,
    ⟨(some 256), .move (.tmp 36), (some (some 254, false))⟩,
    ⟨(some 257), .binOp .neq 3 (.tmp 255) (.tmp 256) 3, (some (some 254, false))⟩,
    ⟨(some 258), .pick (.tmp 254) (.const (.bool true)) (.tmp 257), none⟩,
    ⟨(some 259), .move (.tmp 258), none⟩,
    ⟨(some 260), .move (.tmp 34), (some (some 259, false))⟩,
    ⟨(some 261), .move (.tmp 37), (some (some 259, false))⟩,
    ⟨(some 262), .binOp .neq 4 (.tmp 260) (.tmp 261) 4, (some (some 259, false))⟩,
    ⟨(some 263), .pick (.tmp 259) (.const (.bool true)) (.tmp 262), none⟩] [0, 3, 30, 31, 32, 33, 34, 263])
  (.cond (.tmp 263) (.seq (.reg [⟨(some 2), .assign (.const (.bool false)), none⟩] [2])
  .ret)
  .skip)))
  laws_FnPrintings_t15))
/-- slots: [0, 3, 30, 31] -/
def laws_FnPrintings_t13 : ACode := (.cut [0, 3, 30, 31] (.seq (.reg [⟨(some 238), .move (.tmp 30), none⟩,
    ⟨(some 239), .move (.tmp 31), none⟩,
    ⟨(some 240), .call ⟨.value (.func 16), #[(.tmp 238), (.tmp 239)], #[24, 3]⟩, none⟩,
    ⟨(some 237), .move (.tmp 240), none⟩,
    ⟨(some 241), .extract (.tmp 237) 0, none⟩,
    ⟨(some 242), .extract (.tmp 237) 1, none⟩,
    ⟨(some 243), .extract (.tmp 237) 2, none⟩,
    ⟨(some 32), .assign (.tmp 241), none⟩,
    ⟨(some 33), .assign (.tmp 242), none⟩,
    ⟨(some 34), .assign (.tmp 243), none⟩] [0, 3, 30, 31, 32, 33, 34])
  laws_FnPrintings_t14))
/-- slots: [0, 3] -/
def laws_FnPrintings_t12 : ACode := (.cut [0, 3] (.seq (.reg [⟨(some 233), .move (.tmp 0), none⟩,
    ⟨(some 234), .call ⟨.value (.func 15), #[(.tmp 233)], #[22]⟩, none⟩,
    ⟨(some 232), .move (.tmp 234), none⟩,
    ⟨(some 235), .extract (.tmp 232) 0, none⟩,
    ⟨(some 236), .extract (.tmp 232) 1, none⟩,
    ⟨(some 30), .assign (.tmp 235), none⟩,
    ⟨(some 31), .assign (.tmp 236), none⟩] [0, 3, 30, 31])
  laws_FnPrintings_t13))
/-- slots: [0, 3, 20, 21, 22, 23, 24, 25, 26] -/
def laws_FnPrintings_t11 : ACode := (.cut [0, 3, 20, 21, 22, 23, 24, 25, 26] (.seq (.seq (.reg [⟨(some 211), .move (.tmp 20), none⟩,
    ⟨(some 212), .move (.tmp 21), none⟩,
    ⟨(some 213), .move (.tmp 22), none⟩,
    ⟨(some 214), .move (.tmp 23), none⟩,
    ⟨(some 215), .call ⟨.value (.func 14), #[(.tmp 211), (.tmp 212), (.tmp 213), (.tmp 214)], #[24, 3, 3, 3]⟩, none⟩,
    ⟨(some 210), .move (.tmp 215), none⟩,
    ⟨(some 216), .extract (.tmp 210) 0, none⟩,
    ⟨(some 217), .extract (.tmp 210) 1, none⟩,
    ⟨(some 218), .extract (.tmp 210) 2, none⟩,
    ⟨(some 27), .assign (.tmp 216), none⟩,
    ⟨(some 28), .assign (.tmp 217), none⟩,
    ⟨(some 29), .assign (.tmp 218), none⟩] [0, 3, 24, 25, 26, 27, 28, 29])
  (.seq (.reg [⟨(some 219), .move (.tmp 24), none⟩,
    ⟨(some 220), .move (.tmp 27), none⟩,
    ⟨(some 221), .binOp .neq 3 (.tmp 219) (.tmp 220) 3, none⟩,
    ⟨(some 222), .move (.tmp 221), none⟩,
    ⟨(some 223), .move (.tmp 25), (some (some 222, false))⟩,
    ⟨(some 224), .move (.tmp 28), (some (some 222, false))⟩,
    ⟨(some 225), .binOp .neq 3 (.tmp 223) (.tmp 224) 3, (some (some 222, false))⟩,
    ⟨(some 226), .pick (.tmp 222) (.const (.bool true)) (.tmp 225), none⟩,
    ⟨(some 227), .move (.tmp 226), none⟩,
    ⟨(some 228), .move (.tmp 26), (some (some 227, false))⟩,
    ⟨(some 229), .move (.tmp 29), (some (some 227, false))⟩,
    ⟨(some 230), .binOp .neq 4 (.tmp 228) (.tmp 229) 4, (some (some 227, false))⟩,
    ⟨(some 231), .pick (.tmp 227) (.const (.bool true)) (.tmp 230), none⟩] [0, 3, 231])
  (.cond (.tmp 231) (.seq (.reg [⟨(some 2), .assign (.const (.bool false)), none⟩] [2])
  .ret)
  .skip)))
  laws_FnPrintings_t12))
/-- slots: [0, 3, 20, 21, 22, 23] -/
def laws_FnPrintings_t10 : ACode := (.cut [0, 3, 20, 21, 22, 23] (.seq (.reg [⟨(some 202), .move (.tmp 20), none⟩,
    ⟨(some 203), .move (.tmp 21), none⟩,
    ⟨(some 204), .move (.tmp 22), none⟩,
    ⟨(some 205), .move (.tmp 23), none⟩,
    ⟨(some 206), .call ⟨.value (.func 12), #[(.tmp 202), (.tmp 203), (.tmp 204), (.tmp 205)], #[24, 3, 3, 3]⟩, none⟩,
    ⟨(some 201), .move (.tmp 206), none⟩,
    ⟨(some 207), .extract (.tmp 201) 0, none⟩,
    ⟨(some 208), .extract (.tmp 201) 1, none⟩,
    ⟨(some 209), .extract (.tmp 201) 2, none⟩,
    ⟨(some 24), .assign (.tmp 207), none⟩,
    ⟨(some 25), .assign (.tmp 208), none⟩,
    ⟨(some 26), .assign (.tmp 209), none⟩] [0, 3, 20, 21, 22, 23, 24, 25, 26])
  laws_FnPrintings_t11))
/-- slots: [0, 3] -/
def laws_FnPrintings_t9 : ACode := (.cut [0, 3] (.seq (.reg [⟨(some 195), .move (.tmp 0), none⟩,
    ⟨(some 196), .call ⟨.value (.func 13), #[(.tmp 195)], #[22]⟩, none⟩,
    ⟨(some 194), .move (.tmp 196), none⟩,
    ⟨(some 197), .extract (.tmp 194) 0, none⟩,
    ⟨(some 198), .extract (.tmp 194) 1, none⟩,
    ⟨(some 199), .extract (.tmp 194) 2, none⟩,
    ⟨(some 200), .extract (.tmp 194) 3, none⟩,
    ⟨(some 20), .assign (.tmp 197), none⟩,
    ⟨(some 21), .assign (.tmp 198), none⟩,
    ⟨(some 22), .assign (.tmp 199), none⟩,
    ⟨(some 23), .assign (.tmp 200), none⟩] [0, 3, 20, 21, 22, 23])
  laws_FnPrintings_t10))
/-- slots: [0, 3, 4, 5, 6, 7] -/
def laws_FnPrintings_t8 : ACode := (.cut [0, 3, 4, 5, 6, 7] (.seq (.seq (.reg [⟨(some 111), .move (.tmp 7), none⟩,
    ⟨(some 112), .move (.tmp 111), none⟩,
    ⟨(some 113), .move (.tmp 6), (some (some 112, true))⟩,
    ⟨(some 114), .call ⟨.builtin .len, #[(.tmp 113)], #[27]⟩, (some (some 112, true))⟩,
    ⟨(some 115), .binOp .gtr 3 (.tmp 114) (.const (.int .i64 0)) 3, (some (some 112, true))⟩,
    ⟨(some 116), .pick (.tmp 112) (.tmp 115) (.const (.bool false)), none⟩] [0, 3, 4, 5, 6, 116])
  (.cond (.tmp 116) (.seq (.reg [⟨(some 14), .assign (.const (.int .i64 0)), none⟩] [0, 3, 4, 5, 6, 14])
  (.seq (.seq (.reg [⟨(some 15), .assign (.const (.int .i64 0)), none⟩] [0, 3, 4, 5, 6, 14, 15])
  (.block 0 (.loop laws_FnPrintings_l0)))
  (.seq (.reg [⟨(some 16), .assign (.const (.int .i64 0)), none⟩] [0, 3, 4, 5, 6, 14, 16])
  (.block 2 (.loop laws_FnPrintings_l1)))))
  .skip))
  laws_FnPrintings_t9))
/-- slots: [0, 3, 4, 5, 6, 7, 10, 11] -/
def laws_FnPrintings_t7 : ACode := (.cut [0, 3, 4, 5, 6, 7, 10, 11] (.seq (.seq (.reg [⟨(some 98), .move (.tmp 7), none⟩,
    ⟨(some 99), .move (.tmp 98), none⟩,
    ⟨(some 100), .move (.tmp 6), (some (some 99, true))⟩,
    ⟨(some 101), .call ⟨.builtin .len, #[(.tmp 100)], #[27]⟩, (some (some 99, true))⟩,
    ⟨(some 102), .binOp .gtr 3 (.tmp 101) (.const (.int .i64 0)) 3, (some (some 99, true))⟩,
    ⟨(some 103), .move (.tmp 11), (some (some 99, true))⟩,
    ⟨(some 104), .move (.tmp 103), (some (some 99, true))⟩,
    ⟨(some 105), .move (.tmp 10), (some (some 104, true))⟩,
    ⟨(some 106), .move (.tmp 4), (some (some 104, true))⟩,
    ⟨(some 107), .binOp .leq 3 (.tmp 105) (.tmp 106) 3, (some (some 104, true))⟩,
    ⟨(some 108), .pick (.tmp 104) (.tmp 107) (.const (.bool false)), (some (some 99, true))⟩,
    ⟨(some 109), .binOp .neq 4 (.tmp 102) (.tmp 108) 4, (some (some 99, true))⟩,
    ⟨(some 110), .pick (.tmp 99) (.tmp 109) (.const (.bool false)), none⟩] [0, 3, 4, 5, 6, 7, 110])
  (.cond (.tmp 110) (.seq (.reg [⟨(some 2), .assign (.const (.bool false)), none⟩] [2])
  .ret)
  .skip))
  laws_FnPrintings_t8))
/-- slots: [0, 3, 4, 5, 6, 7, 10, 11] -/
def laws_FnPrintings_t6 : ACode := (.cut [0, 3, 4, 5, 6, 7, 10, 11] (.seq (.seq (.reg [⟨(some 85), .move (.tmp 3), none⟩,
    ⟨(some 86), .move (.tmp 5), none⟩,
    ⟨(some 87), .call ⟨.value (.func 10), #[(.tmp 85), (.tmp 86)], #[24, 3]⟩, none⟩,
    ⟨(some 84), .move (.tmp 87), none⟩,
    ⟨(some 88), .extract (.tmp 84) 0, none⟩,
    ⟨(some 89), .extract (.tmp 84) 1, none⟩,
    ⟨(some 12), .assign (.tmp 88), none⟩,
    ⟨(some 13), .assign (.tmp 89), none⟩] [0, 3, 4, 5, 6, 7, 10, 11, 12, 13])
  (.seq (.reg [⟨(some 90), .move (.tmp 10), none⟩,
    ⟨(some 91), .move (.tmp 12), none⟩,
    ⟨(some 92), .binOp .neq 3 (.tmp 90) (.tmp 91) 3, none⟩,
    ⟨(some 93), .move (.tmp 92), none⟩,
    ⟨(some 94), .move (.tmp 11), (some (some 93, false))⟩,
    ⟨(some 95), .move (.tmp 13), (some (some 93, false))⟩,
    ⟨(some 96), .binOp .neq 4 (.tmp 94) (.tmp 95) 4, (some (some 93, false))⟩,
    ⟨(some 97), .pick (.tmp 93) (.const (.bool true)) (.tmp 96), none⟩] [0, 3, 4, 5, 6, 7, 10, 11, 97])
  (.cond (.tmp 97) (.seq (.reg [⟨(some 2), .assign (.const (.bool false)), none⟩] [2])
  .ret)
  .skip)))
  laws_FnPrintings_t7))
/-- slots: [0, 3, 4, 5, 6, 7] -/
def laws_FnPrintings_t5 : ACode := (.cut [0, 3, 4, 5, 6, 7] (.seq (.reg [⟨(some 79), .move (.tmp 3), none⟩,
    ⟨(some 80), .move (.tmp 5), none⟩,
    ⟨(some 81), .call ⟨.value (.func 9), #[(.tmp 79), (.tmp 80)], #[24, 3]⟩, none⟩,
    ⟨(some 78), .move (.tmp 81), none⟩,
    ⟨(some 82), .extract (.tmp 78) 0, none⟩,
    ⟨(some 83), .extract (.tmp 78) 1, none⟩,
    ⟨(some 10), .assign (.tmp 82), none⟩,
    ⟨(some 11), .assign (.tmp 83), none⟩] [0, 3, 4, 5, 6, 7, 10, 11])
  laws_FnPrintings_t6))
/-- slots: [0, 3, 4, 5, 6, 7] -/
def laws_FnPrintings_t4 : ACode := (.cut [0, 3, 4, 5, 6, 7] (.seq (.seq (.reg [⟨(some 63), .move (.tmp 3), none⟩,
    ⟨(some 64), .move (.tmp 4), none⟩,
    ⟨(some 65), .move (.tmp 5), none⟩,
    ⟨(some 66), .call ⟨.value (.func 7), #[(.tmp 63), (.tmp 64), (.tmp 65)], #[24, 3, 3]⟩, none⟩,
    ⟨(some 62), .move (.tmp 66), none⟩,
    ⟨(some 67), .extract (.tmp 62) 0, none⟩,
    ⟨(some 68), .extract (.tmp 62) 1, none⟩,
    ⟨(some 8), .assign (.tmp 67), none⟩,
    ⟨(some 9), .assign (.tmp 68), none⟩] [0, 3, 4, 5, 6, 7, 8, 9])
  (.seq (.reg [⟨(some 69), .move (.tmp 7), none⟩,
    ⟨(some 70), .move (.tmp 9), none⟩,
    ⟨(some 71), .binOp .neq 4 (.tmp 69) (.tmp 70) 4, none⟩,
    ⟨(some 72), .move (.tmp 71), none⟩,
    ⟨(some 73), .move (.tmp 6), (some (some 72, false))⟩,
    ⟨(some 74), .move (.tmp 8), (some (some 72, false))⟩,
    ⟨(some 75), .call ⟨.value (.func 8), #[(.tmp 73), (.tmp 74)], #[27, 27]⟩, (some (some 72, false))⟩,
    ⟨(some 76), .unOp .not 4 (.tmp 75), (some (some 72, false))⟩,
    ⟨(some 77), .pick (.tmp 72) (.const (.bool true)) (.tmp 76), none⟩] [0, 3, 4, 5, 6, 7, 77])
  (.cond (.tmp 77) (.seq (.reg [⟨(some 2), .assign (.const (.bool false)), none⟩] [2])
  .ret)
  .skip)))
  laws_FnPrintings_t5))
/-- slots: [0, 3, 4, 5] -/
def laws_FnPrintings_t3 : ACode := (.cut [0, 3, 4, 5] (.seq (.reg [⟨(some 56), .move (.tmp 3), none⟩,
    ⟨(some 57), .move (.tmp 4), none⟩,
    ⟨(some 58), .move (.tmp 5), none⟩,
    ⟨(some 59), .call ⟨.value (.func 6), #[(.tmp 56), (.tmp 57), (.tmp 58)], #[24, 3, 3]⟩, none⟩,
    ⟨(some 55), .move (.tmp 59), none⟩,
    ⟨(some 60), .extract (.tmp 55) 0, none⟩,
    ⟨(some 61), .extract (.tmp 55) 1, none⟩,
    ⟨(some 6), .assign (.tmp 60), none⟩,
    ⟨(some 7), .assign (.tmp 61), none⟩] [0, 3, 4, 5, 6, 7])
  laws_FnPrintings_t4))
/-- slots: [0] -/
def laws_FnPrintings_t2 : ACode := (.cut [0] (.seq (.reg [⟨(some 50), .move (.tmp 0), none⟩,
    ⟨(some 51), .call ⟨.value (.func 5), #[(.tmp 50)], #[22]⟩, none⟩,
    ⟨(some 49), .move (.tmp 51), none⟩,
    ⟨(some 52), .extract (.tmp 49) 0, none⟩,
    ⟨(some 53), .extract (.tmp 49) 1, none⟩,
    ⟨(some 54), .extract (.tmp 49) 2, none⟩,
    ⟨(some 3), .assign (.tmp 52), none⟩,
    ⟨(some 4), .assign (.tmp 53), none⟩,
    ⟨(some 5), .assign (.tmp 54), none⟩] [0, 3, 4, 5])
  laws_FnPrintings_t3))
/-- slots: [0] -/
def laws_FnPrintings_t1 : ACode := (.cut [0] (.seq (.seq (.reg [⟨(some 47), .move (.tmp 0), none⟩,
    ⟨(some 48), .call ⟨.value (.func 4), #[(.tmp 47)], #[22]⟩, none⟩] [0, 48])
  (.cond (.tmp 48) (.seq (.reg [⟨(some 2), .assign (.const (.bool true)), none⟩] [2])
  .ret)
  .skip))
  laws_FnPrintings_t2))
/-- loop.example/g01062/laws.FnPrintings: number 3, params [0] -/
def laws_FnPrintings_c : ACode := (.seq (.reg [⟨(some 2), .assign (.const (.bool false)), none⟩] [0])
  laws_FnPrintings_t1)
theorem laws_FnPrintings_k : fnOk Try.prog (fun _ => false) 3 = some (laws_FnPrintings_c.strip, 330, [.tmp 2]) := by kernel_rfl
/-- loop.example/g01062/laws.rBig: number 4, params [0] -/
def laws_rBig_c : ACode := (.seq (.reg [⟨(some 2), .assign (.const (.bool false)), none⟩] [0])
  (.seq (.reg [⟨(some 3), .move (.tmp 0), none⟩,
    ⟨(some 4), .call ⟨.builtin .len, #[(.tmp 3)], #[22]⟩, none⟩,
    ⟨(some 5), .binOp .gtr 3 (.tmp 4) (.const (.int .i64 65536)) 3, none⟩,
    ⟨(some 2), .assign (.tmp 5), none⟩] [2])
  .ret))
theorem laws_rBig_k : fnOk Try.prog (fun _ => false) 4 = some (laws_rBig_c.strip, 6, [.tmp 2]) := by kernel_rfl
/-- head: [1, 2, 8, 24, 25, 26] -/
def impl_CanBeOf_l0 : ACode := (.seq (.reg [⟨(some 27), .binOp .lss 3 (.tmp 26) (.tmp 25) 3, none⟩] [1, 2, 8, 24, 25, 26, 27])
  (.seq (.cond (.tmp 27) .skip
  (.exit 0))
  (.seq (.block 1 (.seq (.reg [⟨(some 28), .indexAddr 24 (.tmp 24) (.tmp 26), none⟩,
    ⟨(some 29), .load 35 (.tmp 28), none⟩,
    ⟨(some 10), .alloc 35, none⟩,
    ⟨none, .store 35 (.tmp 10) (.tmp 29), none⟩] [1, 2, 8, 10, 24, 25, 26])
  (.seq (.reg [⟨(some 30), .load 35 (.tmp 10), none⟩,
    ⟨(some 31), .move (.tmp 1), none⟩,
    ⟨(some 32), .move (.tmp 2), none⟩,
    ⟨(some 33), .call ⟨.value (.func 29), #[(.tmp 30), (.tmp 31), (.tmp 32)], #[35, 3, 3]⟩, none⟩] [1, 2, 8, 10, 24, 25, 26, 33])
  (.cond (.tmp 33) (.reg [⟨(some 34), .move (.tmp 8), none⟩,
    ⟨(some 35), .fieldAddr 35 (.tmp 10) 0, none⟩,
    ⟨(some 36), .load 3 (.tmp 35), none⟩,
    ⟨(some 37), .buildSlice 27 1 #[(0, (.tmp 36))], none⟩,
    ⟨(some 38), .call ⟨.builtin .append, #[(.tmp 34), (.tmp 37)], #[27, 27]⟩, none⟩,
    ⟨(some 8), .assign (.tmp 38), none⟩] [1, 2, 8, 24, 25, 26])
  .skip))))
  (.reg [⟨(some 39), .binOp .add 3 (.tmp 26) (.const (.int .i64 1)) 3, none⟩,
    ⟨(some 26), .move (.tmp 39), none⟩] [1, 2, 8, 24, 25, 26]))))
/-- loop.example/g01062/impl.CanBeOf: number 6, params [0, 1, 2] -/
def impl_CanBeOf_c : ACode := (.seq (.reg [⟨(some 6), .assign (.const (.slice none 0 0)), none⟩,
    ⟨(some 7), .assign (.const (.bool false)), none⟩] [0, 1, 2])
  (.seq (.seq (.reg [⟨(some 11), .move (.tmp 0), none⟩,
    ⟨(some 12), .call ⟨.value (.func 26), #[(.tmp 11)], #[24]⟩, none⟩,
    ⟨(some 13), .unOp .not 4 (.tmp 12), none⟩,
    ⟨(some 14), .move (.tmp 13), none⟩,
    ⟨(some 15), .move (.tmp 1), (some (some 14, false))⟩,
    ⟨(some 16), .call ⟨.value (.func 27), #[(.tmp 15)], #[3]⟩, (some (some 14, false))⟩,
    ⟨(some 17), .unOp .not 4 (.tmp 16), (some (some 14, false))⟩,
    ⟨(some 18), .pick (.tmp 14) (.const (.bool true)) (.tmp 17), none⟩,
    ⟨(some 19), .move (.tmp 18), none⟩,
    ⟨(some 20), .move (.tmp 2), (some (some 19, false))⟩,
    ⟨(some 21), .call ⟨.value (.func 28), #[(.tmp 20)], #[3]⟩, (some (some 19, false))⟩,
    ⟨(some 22), .unOp .not 4 (.tmp 21), (some (some 19, false))⟩,
    ⟨(some 23), .pick (.tmp 19) (.const (.bool true)) (.tmp 22), none⟩] [0, 1, 2, 23])
  (.cond (.tmp 23) (.seq (.reg [⟨(some 6), .assign (.const (.slice none 0 0)), none⟩,
    ⟨(some 7), .assign (.const (.bool false)), none⟩] [6, 7])
  .ret)
  .skip))
  (.seq (.reg [⟨(some 8), .assign (.const (.slice none 0 0)), none⟩] [0, 1, 2, 8])
  (.seq (.seq (.reg [⟨(some 24), .move (.tmp 0), none⟩,
    ⟨(some 25), .call ⟨.builtin .len, #[(.tmp 24)], #[24]⟩, none⟩,
    ⟨(some 26), .move (.const (.int .i64 0)), none⟩] [1, 2, 8, 24, 25, 26])
  (.block 0 (.loop impl_CanBeOf_l0)))
  (.seq (.reg [⟨(some 40), .move (.tmp 8), none⟩,
    ⟨(some 6), .assign (.tmp 40), none⟩,
    ⟨(some 7), .assign (.const (.bool true)), none⟩] [6, 7])
  .ret)))))
theorem impl_CanBeOf_k : fnOk Try.prog (fun _ => false) 6 = some (impl_CanBeOf_c.strip, 41, [.tmp 6, .tmp 7]) := by kernel_rfl
/-- head: [0, 1, 2, 8, 9] -/
def spec_CanBeOf_l0 : ACode := (.seq (.seq (.reg [⟨(some 25), .move (.tmp 9), none⟩,
    ⟨(some 26), .move (.tmp 0), none⟩,
    ⟨(some 27), .call ⟨.builtin .len, #[(.tmp 26)], #[24]⟩, none⟩,
    ⟨(some 28), .binOp .lss 3 (.tmp 25) (.tmp 27) 3, none⟩] [0, 1, 2, 8, 9, 28])
  (.cond (.tmp 28) .skip
  (.exit 0)))
  (.seq (.block 1 (.seq (.reg [⟨(some 31), .move (.tmp 0), none⟩,
    ⟨(some 32), .move (.tmp 9), none⟩,
    ⟨(some 33), .indexAddr 24 (.tmp 31) (.tmp 32), none⟩,
    ⟨(some 34), .load 35 (.tmp 33), none⟩,
    ⟨(some 35), .move (.tmp 1), none⟩,
    ⟨(some 36), .move (.tmp 2), none⟩,
    ⟨(some 37), .call ⟨.value (.func 33), #[(.tmp 34), (.tmp 35), (.tmp 36)], #[35, 3, 3]⟩, none⟩] [0, 1, 2, 8, 9, 37])
  (.cond (.tmp 37) (.reg [⟨(some 38), .move (.tmp 8), none⟩,
    ⟨(some 39), .move (.tmp 0), none⟩,
    ⟨(some 40), .move (.tmp 9), none⟩,
    ⟨(some 41), .indexAddr 24 (.tmp 39) (.tmp 40), none⟩,
    ⟨(some 42), .fieldAddr 35 (.tmp 41) 0, none⟩,
    ⟨(some 43), .load 3 (.tmp 42), none⟩,
    ⟨(some 44), .buildSlice 27 1 #[(0, (.tmp 43))], none⟩,
    ⟨(some 45), .call ⟨.builtin .append, #[(.tmp 38), (.tmp 44)], #[27, 27]⟩, none⟩,
    ⟨(some 8), .assign (.tmp 45), none⟩] [0, 1, 2, 8, 9])
  .skip)))
  (.reg [⟨(some 29), .move (.tmp 9), none⟩,
    ⟨(some 30), .binOp .add 3 (.tmp 29) (.const (.int .i64 1)) 3, none⟩,
    ⟨(some 9), .assign (.tmp 30), none⟩] [0, 1, 2, 8, 9])))
/-- loop.example/g01062/spec.CanBeOf: number 7, params [0, 1, 2] -/
def spec_CanBeOf_c : ACode := (.seq (.reg [⟨(some 6), .assign (.const (.slice none 0 0)), none⟩,
    ⟨(some 7), .assign (.const (.bool false)), none⟩] [0, 1, 2])
  (.seq (.reg [⟨(some 10), .buildSlice 27 0 #[], none⟩,
    ⟨(some 8), .assign (.tmp 10), none⟩] [0, 1, 2, 8])
  (.seq (.seq (.reg [⟨(some 11), .move (.tmp 0), none⟩,
    ⟨(some 12), .call ⟨.value (.func 30), #[(.tmp 11)], #[24]⟩, none⟩,
    ⟨(some 13), .unOp .not 4 (.tmp 12), none⟩,
    ⟨(some 14), .move (.tmp 13), none⟩,
    ⟨(some 15), .move (.tmp 1), (some (some 14, false))⟩,
    ⟨(some 16), .call ⟨.value (.func 31), #[(.tmp 15)], #[3]⟩, (some (some 14, false))⟩,
    ⟨(some 17), .unOp .not 4 (.tmp 16), (some (some 14, false))⟩,
    ⟨(some 18), .pick (.tmp 14) (.const (.bool true)) (.tmp 17), none⟩,
    ⟨(some 19), .move (.tmp 18), none⟩,
    ⟨(some 20), .move (.tmp 2), (some (some 19, false))⟩,
    ⟨(some 21), .call ⟨.value (.func 32), #[(.tmp 20)], #[3]⟩, (some (some 19, false))⟩,
    ⟨(some 22), .unOp .not 4 (.tmp 21), (some (some 19, false))⟩,
    ⟨(some 23), .pick (.tmp 19) (.const (.bool true)) (.tmp 22), none⟩] [0, 1, 2, 8, 23])
  (.cond (.tmp 23) (.seq (.reg [⟨(some 24), .move (.tmp 8), none⟩,
    ⟨(some 6), .assign (.tmp 24), none⟩,
    ⟨(some 7), .assign (.const (.bool false)), none⟩] [6, 7])
  .ret)
  .skip))
  (.seq (.seq (.reg [⟨(some 9), .assign (.const (.int .i64 0)), none⟩] [0, 1, 2, 8, 9])
  (.block 0 (.loop spec_CanBeOf_l0)))
  (.seq (.reg [⟨(some 46), .move (.tmp 8), none⟩,
    ⟨(some 6), .assign (.tmp 46), none⟩,
    ⟨(some 7), .assign (.const (.bool true)), none⟩] [6, 7])
  .ret)))))
theorem spec_CanBeOf_k : fnOk Try.prog (fun _ => false) 7 = some (spec_CanBeOf_c.strip, 47, [.tmp 6, .tmp 7]) := by kernel_rfl
/-- head: [0, 1, 5] -/
def laws_rInts_l0 : ACode := (.seq (.seq (.reg [⟨(some 11), .move (.tmp 5), none⟩,
    ⟨(some 12), .move (.tmp 0), none⟩,
    ⟨(some 13), .call ⟨.builtin .len, #[(.tmp 12)], #[27]⟩, none⟩,
    ⟨(some 14), .binOp .lss 3 (.tmp 11) (.tmp 13) 3, none⟩] [0, 1, 5, 14])
  (.cond (.tmp 14) .skip
  (.exit 0)))
  (.seq (.block 1 (.seq (.regQ [⟨(some 17), .move (.tmp 0), none⟩,
    ⟨(some 18), .move (.tmp 5), none⟩,
    ⟨(some 19), .indexAddr 27 (.tmp 17) (.tmp 18), none⟩,
    ⟨(some 20), .load 3 (.tmp 19), none⟩,
    ⟨(some 21), .move (.tmp 1), none⟩,
    ⟨(some 22), .move (.tmp 5), none⟩,
    ⟨(some 23), .indexAddr 27 (.tmp 21) (.tmp 22), none⟩,
    ⟨(some 24), .load 3 (.tmp 23), none⟩,
    ⟨(some 25), .binOp .neq 3 (.tmp 20) (.tmp 24) 3, none⟩] [0, 1, 5, 25])
  (.cond (.tmp 25) (.seq (.reg [⟨(some 4), .assign (.const (.bool false)), none⟩] [4])
  .ret)
  .skip)))
  (.reg [⟨(some 15), .move (.tmp 5), none⟩,
    ⟨(some 16), .binOp .add 3 (.tmp 15) (.const (.int .i64 1)) 3, none⟩,
    ⟨(some 5), .assign (.tmp 16), none⟩] [0, 1, 5])))
/-- loop.example/g01062/laws.rInts: number 8, params [0, 1] -/
def laws_rInts_c : ACode := (.seq (.reg [⟨(some 4), .assign (.const (.bool false)), none⟩] [0, 1])
  (.seq (.seq (.reg [⟨(some 6), .move (.tmp 0), none⟩,
    ⟨(some 7), .call ⟨.builtin .len, #[(.tmp 6)], #[27]⟩, none⟩,
    ⟨(some 8), .move (.tmp 1), none⟩,
    ⟨(some 9), .call ⟨.builtin .len, #[(.tmp 8)], #[27]⟩, none⟩,
    ⟨(some 10), .binOp .neq 3 (.tmp 7) (.tmp 9) 3, none⟩] [0, 1, 10])
  (.cond (.tmp 10) (.seq (.reg [⟨(some 4), .assign (.const (.bool false)), none⟩] [4])
  .ret)
  .skip))
  (.seq (.seq (.reg [⟨(some 5), .assign (.const (.int .i64 0)), none⟩] [0, 1, 5])
  (.block 0 (.loop laws_rInts_l0)))
  (.seq (.reg [⟨(some 4), .assign (.const (.bool true)), none⟩] [4])
  .ret))))
theorem laws_rInts_k : fnOk Try.prog (fun _ => false) 8 = some (laws_rInts_c.strip, 26, [.tmp 4]) := by kernel_rfl
/-- head: [1, 16, 17, 18] -/
def impl_EarliestUse_l0 : ACode := (.seq (.reg [⟨(some 19), .binOp .lss 3 (.tmp 18) (.tmp 17) 3, none⟩] [1, 16, 17, 18, 19])
  (.seq (.cond (.tmp 19) .skip
  (.exit 0))
  (.seq (.block 1 (.seq (.reg [⟨(some 20), .indexAddr 24 (.tmp 16) (.tmp 18), none⟩,
    ⟨(some 21), .load 35 (.tmp 20), none⟩,
    ⟨(some 7), .alloc 35, none⟩,
    ⟨none, .store 35 (.tmp 7) (.tmp 21), none⟩] [1, 7, 16, 17, 18])
  (.seq (.reg [⟨(some 22), .load 35 (.tmp 7), none⟩,
    ⟨(some 23), .move (.tmp 1), none⟩,
    ⟨(some 24), .call ⟨.value (.func 34), #[(.tmp 22), (.tmp 23)], #[35, 3]⟩, none⟩] [1, 7, 16, 17, 18, 24])
  (.cond (.tmp 24) (.seq (.reg [⟨(some 25), .fieldAddr 35 (.tmp 7) 1, none⟩,
    ⟨(some 26), .load 3 (.tmp 25), none⟩,
    ⟨(some 4), .assign (.tmp 26), none⟩,
    ⟨(some 5), .assign (.const (.bool true)), none⟩] [4, 5])
  .ret)
  .skip))))
  (.reg [⟨(some 27), .binOp .add 3 (.tmp 18) (.const (.int .i64 1)) 3, none⟩,
    ⟨(some 18), .move (.tmp 27), none⟩] [1, 16, 17, 18]))))
/-- loop.example/g01062/impl.EarliestUse: number 9, params [0, 1] -/
def impl_EarliestUse_c : ACode := (.seq (.reg [⟨(some 4), .assign (.const (.int .i64 0)), none⟩,
    ⟨(some 5), .assign (.const (.bool false)), none⟩] [0, 1])
  (.seq (.seq (.reg [⟨(some 8), .move (.tmp 0), none⟩,
    ⟨(some 9), .call ⟨.value (.func 26), #[(.tmp 8)], #[24]⟩, none⟩,
    ⟨(some 10), .unOp .not 4 (.tmp 9), none⟩,
    ⟨(some 11), .move (.tmp 10), none⟩,
    ⟨(some 12), .move (.tmp 1), (some (some 11, false))⟩,
    ⟨(some 13), .call ⟨.value (.func 28), #[(.tmp 12)], #[3]⟩, (some (some 11, false))⟩,
    ⟨(some 14), .unOp .not 4 (.tmp 13), (some (some 11, false))⟩,
    ⟨(some 15), .pick (.tmp 11) (.const (.bool true)) (.tmp 14), none⟩] [0, 1, 15])
  (.cond (.tmp 15) (.seq (.reg [⟨(some 4), .assign (.const (.int .i64 0)), none⟩,
    ⟨(some 5), .assign (.const (.bool false)), none⟩] [4, 5])
  .ret)
  .skip))
  (.seq (.seq (.reg [⟨(some 16), .move (.tmp 0), none⟩,
    ⟨(some 17), .call ⟨.builtin .len, #[(.tmp 16)], #[24]⟩, none⟩,
    ⟨(some 18), .move (.const (.int .i64 0)), none⟩] [1, 16, 17, 18])
  (.block 0 (.loop impl_EarliestUse_l0)))
  (.seq (.reg [⟨(some 4), .assign (.const (.int .i64 0)), none⟩,
    ⟨(some 5), .assign (.const (.bool false)), none⟩] [4, 5])
  .ret))))
theorem impl_EarliestUse_k : fnOk Try.prog (fun _ => false) 9 = some (impl_EarliestUse_c.strip, 28, [.tmp 4, .tmp 5]) := by kernel_rfl
/-- head: [0, 1, 6] -/
def spec_EarliestUse_l0 : ACode := (.seq (.seq (.reg [⟨(some 15), .move (.tmp 6), none⟩,
    ⟨(some 16), .move (.tmp 0), none⟩,
    ⟨(some 17), .call ⟨.builtin .len, #[(.tmp 16)], #[24]⟩, none⟩,
    ⟨(some 18), .binOp .lss 3 (.tmp 15) (.tmp 17) 3, none⟩] [0, 1, 6, 18])
  (.cond (.tmp 18) .skip
  (.exit 0)))
  (.seq (.block 1 (.seq (.reg [⟨(some 21), .move (.tmp 0), none⟩,
    ⟨(some 22), .move (.tmp 6), none⟩,
    ⟨(some 23), .indexAddr 24 (.tmp 21) (.tmp 22), none⟩,
    ⟨(some 24), .load 35 (.tmp 23), none⟩,
    ⟨(some 25), .move (.tmp 1), none⟩,
    ⟨(some 26), .call ⟨.value (.func 35), #[(.tmp 24), (.tmp 25)], #[35, 3]⟩, none⟩] [0, 1, 6, 26])
  (.cond (.tmp 26) (.seq (.reg [⟨(some 27), .move (.tmp 0), none⟩,
    ⟨(some 28), .move (.tmp 6), none⟩,
    ⟨(some 29), .indexAddr 24 (.tmp 27) (.tmp 28), none⟩,
    ⟨(some 30), .fieldAddr 35 (.tmp 29) 1, none⟩,
    ⟨(some 31), .load 3 (.tmp 30), none⟩,
    ⟨(some 4), .assign (.tmp 31), none⟩,
    ⟨(some 5), .assign (.const (.bool true)), none⟩] [4, 5])
  .ret)
  .skip)))
  (.reg [⟨(some 19), .move (.tmp 6), none⟩,
    ⟨(some 20), .binOp .add 3 (.tmp 19) (.const (.int .i64 1)) 3, none⟩,
    ⟨(some 6), .assign (.tmp 20), none⟩] [0, 1, 6])))
/-- loop.example/g01062/spec.EarliestUse: number 10, params [0, 1] -/
def spec_EarliestUse_c : ACode := (.seq (.reg [⟨(some 4), .assign (.const (.int .i64 0)), none⟩,
    ⟨(some 5), .assign (.const (.bool false)), none⟩] [0, 1])
  (.seq (.seq (.reg [⟨(some 7), .move (.tmp 0), none⟩,
    ⟨(some 8), .call ⟨.value (.func 30), #[(.tmp 7)], #[24]⟩, none⟩,
    ⟨(some 9), .unOp .not 4 (.tmp 8), none⟩,
    ⟨(some 10), .move (.tmp 9), none⟩,
    ⟨(some 11), .move (.tmp 1), (some (some 10, false))⟩,
    ⟨(some 12), .call ⟨.value (.func 32), #[(.tmp 11)], #[3]⟩, (some (some 10, false))⟩,
    ⟨(some 13), .unOp .not 4 (.tmp 12), (some (some 10, false))⟩,
    ⟨(some 14), .pick (.tmp 10) (.const (.bool true)) (.tmp 13), none⟩] [0, 1, 14])
  (.cond (.tmp 14) (.seq (.reg [⟨(some 4), .assign (.const (.int .i64 0)), none⟩,
    ⟨(some 5), .assign (.const (.bool false)), none⟩] [4, 5])
  .ret)
  .skip))
  (.seq (.seq (.reg [⟨(some 6), .assign (.const (.int .i64 0)), none⟩] [0, 1, 6])
  (.block 0 (.loop spec_EarliestUse_l0)))
  (.seq (.reg [⟨(some 4), .assign (.const (.int .i64 0)), none⟩,
    ⟨(some 5), .assign (.const (.bool false)), none⟩] [4, 5])
  .ret))))
theorem spec_EarliestUse_k : fnOk Try.prog (fun _ => false) 10 = some (spec_EarliestUse_c.strip, 32, [.tmp 4, .tmp 5]) := by kernel_rfl
/-- head: [0, 1, 5] -/
def laws_rHas_l0 : ACode := (.seq (.seq (.reg [⟨(some 6), .move (.tmp 5), none⟩,
    ⟨(some 7), .move (.tmp 0), none⟩,
    ⟨(some 8), .call ⟨.builtin .len, #[(.tmp 7)], #[27]⟩, none⟩,
    ⟨(some 9), .binOp .lss 3 (.tmp 6) (.tmp 8) 3, none⟩] [0, 1, 5, 9])
  (.cond (.tmp 9) .skip
  (.exit 0)))
  (.seq (.block 1 (.seq (.reg [⟨(some 12), .move (.tmp 0), none⟩,
    ⟨(some 13), .move (.tmp 5), none⟩,
    ⟨(some 14), .indexAddr 27 (.tmp 12) (.tmp 13), none⟩,
    ⟨(some 15), .load 3 (.tmp 14), none⟩,
    ⟨(some 16), .move (.tmp 1), none⟩,
    ⟨(some 17), .binOp .eql 3 (.tmp 15) (.tmp 16) 3, none⟩] [0, 1, 5, 17])
  (.cond (.tmp 17) (.seq (.reg [⟨(some 4), .assign (.const (.bool true)), none⟩] [4])
  .ret)
  .skip)))
  (.reg [⟨(some 10), .move (.tmp 5), none⟩,
    ⟨(some 11), .binOp .add 3 (.tmp 10) (.const (.int .i64 1)) 3, none⟩,
    ⟨(some 5), .assign (.tmp 11), none⟩] [0, 1, 5])))
/-- loop.example/g01062/laws.rHas: number 11, params [0, 1] -/
def laws_rHas_c : ACode := (.seq (.reg [⟨(some 4), .assign (.const (.bool false)), none⟩] [0, 1])
  (.seq (.seq (.reg [⟨(some 5), .assign (.const (.int .i64 0)), none⟩] [0, 1, 5])
  (.block 0 (.loop laws_rHas_l0)))
  (.seq (.reg [⟨(some 4), .assign (.const (.bool false)), none⟩] [4])
  .ret)))
theorem laws_rHas_k : fnOk Try.prog (fun _ => false) 11 = some (laws_rHas_c.strip, 18, [.tmp 4]) := by kernel_rfl
/-- head: [2, 3, 11, 12, 13, 38, 39, 40] -/
def impl_ChanceOf_l0 : ACode := (.seq (.reg [⟨(some 41), .binOp .lss 3 (.tmp 40) (.tmp 39) 3, none⟩] [2, 3, 11, 12, 13, 38, 39, 40, 41])
  (.seq (.cond (.tmp 41) .skip
  (.exit 0))
  (.seq (.block 1 (.seq (.reg [⟨(some 42), .move (.tmp 40), none⟩,
    ⟨(some 43), .indexAddr 24 (.tmp 38) (.tmp 40), none⟩,
    ⟨(some 44), .load 35 (.tmp 43), none⟩,
    ⟨(some 15), .alloc 35, none⟩,
    ⟨(some 14), .assign (.tmp 42), none⟩,
    ⟨none, .store 35 (.tmp 15) (.tmp 44), none⟩] [2, 3, 11, 12, 13, 14, 15, 38, 39, 40])
  (.seq (.seq (.reg [⟨(some 45), .load 35 (.tmp 15), none⟩,
    ⟨(some 46), .move (.tmp 2), none⟩,
    ⟨(some 47), .move (.tmp 3), none⟩,
    ⟨(some 48), .call ⟨.value (.func 29), #[(.tmp 45), (.tmp 46), (.tmp 47)], #[35, 3, 3]⟩, none⟩,
    ⟨(some 49), .unOp .not 4 (.tmp 48), none⟩] [2, 3, 11, 12, 13, 14, 15, 38, 39, 40, 49])
  (.cond (.tmp 49) (.exit 1)
  .skip))
  (.seq (.reg [⟨(some 50), .move (.tmp 12), none⟩,
    ⟨(some 51), .fieldAddr 35 (.tmp 15) 2, none⟩,
    ⟨(some 52), .load 3 (.tmp 51), none⟩,
    ⟨(some 53), .binOp .add 3 (.tmp 50) (.tmp 52) 3, none⟩,
    ⟨(some 12), .assign (.tmp 53), none⟩] [2, 3, 11, 12, 13, 14, 15, 38, 39, 40])
  (.seq (.reg [⟨(some 54), .move (.tmp 14), none⟩,
    ⟨(some 55), .move (.tmp 11), none⟩,
    ⟨(some 56), .binOp .eql 3 (.tmp 54) (.tmp 55) 3, none⟩] [2, 3, 11, 12, 13, 15, 38, 39, 40, 56])
  (.cond (.tmp 56) (.reg [⟨(some 57), .fieldAddr 35 (.tmp 15) 2, none⟩,
    ⟨(some 58), .load 3 (.tmp 57), none⟩,
    ⟨(some 13), .assign (.tmp 58), none⟩] [2, 3, 11, 12, 13, 38, 39, 40])
  .skip))))))
  (.reg [⟨(some 59), .binOp .add 3 (.tmp 40) (.const (.int .i64 1)) 3, none⟩,
    ⟨(some 40), .move (.tmp 59), none⟩] [2, 3, 11, 12, 13, 38, 39, 40]))))
/-- loop.example/g01062/impl.ChanceOf: number 12, params [0, 1, 2, 3] -/
def impl_ChanceOf_c : ACode := (.seq (.reg [⟨(some 8), .assign (.const (.int .i64 0)), none⟩,
    ⟨(some 9), .assign (.const (.int .i64 0)), none⟩,
    ⟨(some 10), .assign (.const (.bool false)), none⟩] [0, 1, 2, 3])
  (.seq (.reg [⟨(some 18), .move (.tmp 0), none⟩,
    ⟨(some 19), .move (.tmp 1), none⟩,
    ⟨(some 20), .call ⟨.value (.func 36), #[(.tmp 18), (.tmp 19)], #[24, 3]⟩, none⟩,
    ⟨(some 11), .assign (.tmp 20), none⟩] [0, 2, 3, 11])
  (.seq (.seq (.reg [⟨(some 21), .move (.tmp 0), none⟩,
    ⟨(some 22), .call ⟨.value (.func 26), #[(.tmp 21)], #[24]⟩, none⟩,
    ⟨(some 23), .unOp .not 4 (.tmp 22), none⟩,
    ⟨(some 24), .move (.tmp 23), none⟩,
    ⟨(some 25), .move (.tmp 11), (some (some 24, false))⟩,
    ⟨(some 26), .binOp .lss 3 (.tmp 25) (.const (.int .i64 0)) 3, (some (some 24, false))⟩,
    ⟨(some 27), .pick (.tmp 24) (.const (.bool true)) (.tmp 26), none⟩,
    ⟨(some 28), .move (.tmp 27), none⟩,
    ⟨(some 29), .move (.tmp 2), (some (some 28, false))⟩,
    ⟨(some 30), .call ⟨.value (.func 27), #[(.tmp 29)], #[3]⟩, (some (some 28, false))⟩,
    ⟨(some 31), .unOp .not 4 (.tmp 30), (some (some 28, false))⟩,
    ⟨(some 32), .pick (.tmp 28) (.const (.bool true)) (.tmp 31), none⟩,
    ⟨(some 33), .move (.tmp 32), none⟩,
    ⟨(some 34), .move (.tmp 3), (some (some 33, false))⟩,
    ⟨(some 35), .call ⟨.value (.func 28), #[(.tmp 34)], #[3]⟩, (some (some 33, false))⟩,
    ⟨(some 36), .unOp .not 4 (.tmp 35), (some (some 33, false))⟩,
    ⟨(some 37), .pick (.tmp 33) (.const (.bool true)) (.tmp 36), none⟩] [0, 2, 3, 11, 37])
  (.cond (.tmp 37) (.seq (.reg [⟨(some 8), .assign (.const (.int .i64 0)), none⟩,
    ⟨(some 9), .assign (.const (.int .i64 0)), none⟩,
    ⟨(some 10), .assign (.const (.bool false)), none⟩] [8, 9, 10])
  .ret)
  .skip))
  (.seq (.reg [⟨(some 12), .assign (.const (.int .i64 0)), none⟩,
    ⟨(some 13), .assign (.const (.int .i64 0)), none⟩] [0, 2, 3, 11, 12, 13])
  (.seq (.seq (.reg [⟨(some 38), .move (.tmp 0), none⟩,
    ⟨(some 39), .call ⟨.builtin .len, #[(.tmp 38)], #[24]⟩, none⟩,
    ⟨(some 40), .move (.const (.int .i64 0)), none⟩] [2, 3, 11, 12, 13, 38, 39, 40])
  (.block 0 (.loop impl_ChanceOf_l0)))
  (.seq (.seq (.reg [⟨(some 60), .move (.tmp 12), none⟩,
    ⟨(some 61), .binOp .eql 3 (.tmp 60) (.const (.int .i64 0)) 3, none⟩] [12, 13, 61])
  (.cond (.tmp 61) (.seq (.reg [⟨(some 8), .assign (.const (.int .i64 0)), none⟩,
    ⟨(some 9), .assign (.const (.int .i64 0)), none⟩,
    ⟨(some 10), .assign (.const (.bool false)), none⟩] [8, 9, 10])
  .ret)
  .skip))
  (.seq (.reg [⟨(some 63), .move (.tmp 13), none⟩,
    ⟨(some 64), .move (.tmp 12), none⟩,
    ⟨(some 65), .call ⟨.value (.func 37), #[(.tmp 63), (.tmp 64)], #[3, 3]⟩, none⟩,
    ⟨(some 62), .move (.tmp 65), none⟩,
    ⟨(some 66), .extract (.tmp 62) 0, none⟩,
    ⟨(some 67), .extract (.tmp 62) 1, none⟩,
    ⟨(some 16), .assign (.tmp 66), none⟩,
    ⟨(some 17), .assign (.tmp 67), none⟩] [16, 17])
  (.seq (.reg [⟨(some 68), .move (.tmp 16), none⟩,
    ⟨(some 69), .move (.tmp 17), none⟩,
    ⟨(some 8), .assign (.tmp 68), none⟩,
    ⟨(some 9), .assign (.tmp 69), none⟩,
    ⟨(some 10), .assign (.const (.bool true)), none⟩] [8, 9, 10])
  .ret))))))))
theorem impl_ChanceOf_k : fnOk Try.prog (fun _ => false) 12 = some (impl_ChanceOf_c.strip, 70, [.tmp 8, .tmp 9, .tmp 10]) := by kernel_rfl
/-- head: [0, 2, 3, 11, 12, 13] -/
def spec_ChanceOf_l0 : ACode := (.seq (.seq (.reg [⟨(some 36), .move (.tmp 13), none⟩,
    ⟨(some 37), .move (.tmp 0), none⟩,
    ⟨(some 38), .call ⟨.builtin .len, #[(.tmp 37)], #[24]⟩, none⟩,
    ⟨(some 39), .binOp .lss 3 (.tmp 36) (.tmp 38) 3, none⟩] [0, 2, 3, 11, 12, 13, 39])
  (.cond (.tmp 39) .skip
  (.exit 0)))
  (.seq (.block 1 (.seq (.reg [⟨(some 42), .move (.tmp 0), none⟩,
    ⟨(some 43), .move (.tmp 13), none⟩,
    ⟨(some 44), .indexAddr 24 (.tmp 42) (.tmp 43), none⟩,
    ⟨(some 45), .load 35 (.tmp 44), none⟩,
    ⟨(some 46), .move (.tmp 2), none⟩,
    ⟨(some 47), .move (.tmp 3), none⟩,
    ⟨(some 48), .call ⟨.value (.func 33), #[(.tmp 45), (.tmp 46), (.tmp 47)], #[35, 3, 3]⟩, none⟩] [0, 2, 3, 11, 12, 13, 48])
  (.cond (.tmp 48) (.reg [⟨(some 49), .move (.tmp 12), none⟩,
    ⟨(some 50), .move (.tmp 0), none⟩,
    ⟨(some 51), .move (.tmp 13), none⟩,
    ⟨(some 52), .indexAddr 24 (.tmp 50) (.tmp 51), none⟩,
    ⟨(some 53), .fieldAddr 35 (.tmp 52) 2, none⟩,
    ⟨(some 54), .load 3 (.tmp 53), none⟩,
    ⟨(some 55), .binOp .add 3 (.tmp 49) (.tmp 54) 3, none⟩,
    ⟨(some 12), .assign (.tmp 55), none⟩] [0, 2, 3, 11, 12, 13])
  .skip)))
  (.reg [⟨(some 40), .move (.tmp 13), none⟩,
    ⟨(some 41), .binOp .add 3 (.tmp 40) (.const (.int .i64 1)) 3, none⟩,
    ⟨(some 13), .assign (.tmp 41), none⟩] [0, 2, 3, 11, 12, 13])))
/-- loop.example/g01062/spec.ChanceOf: number 14, params [0, 1, 2, 3] -/
def spec_ChanceOf_c : ACode := (.seq (.reg [⟨(some 8), .assign (.const (.int .i64 0)), none⟩,
    ⟨(some 9), .assign (.const (.int .i64 0)), none⟩,
    ⟨(some 10), .assign (.const (.bool false)), none⟩] [0, 1, 2, 3])
  (.seq (.reg [⟨(some 16), .move (.tmp 0), none⟩,
    ⟨(some 17), .move (.tmp 1), none⟩,
    ⟨(some 18), .call ⟨.value (.func 39), #[(.tmp 16), (.tmp 17)], #[24, 3]⟩, none⟩,
    ⟨(some 11), .assign (.tmp 18), none⟩] [0, 2, 3, 11])
  (.seq (.seq (.reg [⟨(some 19), .move (.tmp 0), none⟩,
    ⟨(some 20), .call ⟨.value (.func 30), #[(.tmp 19)], #[24]⟩, none⟩,
    ⟨(some 21), .unOp .not 4 (.tmp 20), none⟩,
    ⟨(some 22), .move (.tmp 21), none⟩,
    ⟨(some 23), .move (.tmp 11), (some (some 22, false))⟩,
    ⟨(some 24), .binOp .lss 3 (.tmp 23) (.const (.int .i64 0)) 3, (some (some 22, false))⟩,
    ⟨(some 25), .pick (.tmp 22) (.const (.bool true)) (.tmp 24), none⟩,
    ⟨(some 26), .move (.tmp 25), none⟩,
    ⟨(some 27), .move (.tmp 2), (some (some 26, false))⟩,
    ⟨(some 28), .call ⟨.value (.func 31), #[(.tmp 27)], #[3]⟩, (some (some 26, false))⟩,
    ⟨(some 29), .unOp .not 4 (.tmp 28), (some (some 26, false))⟩,
    ⟨(some 30), .pick (.tmp 26) (.const (.bool true)) (.tmp 29), none⟩,
    ⟨(some 31), .move (.tmp 30), none⟩,
    ⟨(some 32), .move (.tmp 3), (some (some 31, false))⟩,
    ⟨(some 33), .call ⟨.value (.func 32), #[(.tmp 32)], #[3]⟩, (some (some 31, false))⟩,
    ⟨(some 34), .unOp .not 4 (.tmp 33), (some (some 31, false))⟩,
    ⟨(some 35), .pick (.tmp 31) (.const (.bool true)) (.tmp 34), none⟩] [0, 2, 3, 11, 35])
  (.cond (.tmp 35) (.seq (.reg [⟨(some 8), .assign (.const (.int .i64 0)), none⟩,
    ⟨(some 9), .assign (.const (.int .i64 0)), none⟩,
    ⟨(some 10), .assign (.const (.bool false)), none⟩] [8, 9, 10])
  .ret)
  .skip))
  (.seq (.reg [⟨(some 12), .assign (.const (.int .i64 0)), none⟩] [0, 2, 3, 11, 12])
  (.seq (.seq (.reg [⟨(some 13), .assign (.const (.int .i64 0)), none⟩] [0, 2, 3, 11, 12, 13])
  (.block 0 (.loop spec_ChanceOf_l0)))
  (.seq (.seq (.reg [⟨(some 56), .move (.tmp 12), none⟩,
    ⟨(some 57), .binOp .eql 3 (.tmp 56) (.const (.int .i64 0)) 3, none⟩] [0, 2, 3, 11, 12, 57])
  (.cond (.tmp 57) (.seq (.reg [⟨(some 8), .assign (.const (.int .i64 0)), none⟩,
    ⟨(some 9), .assign (.const (.int .i64 0)), none⟩,
    ⟨(some 10), .assign (.const (.bool false)), none⟩] [8, 9, 10])
  .ret)
  .skip))
  (.seq (.seq (.reg [⟨(some 58), .move (.tmp 0), none⟩,
    ⟨(some 59), .move (.tmp 11), none⟩,
    ⟨(some 60), .indexAddr 24 (.tmp 58) (.tmp 59), none⟩,
    ⟨(some 61), .load 35 (.tmp 60), none⟩,
    ⟨(some 62), .move (.tmp 2), none⟩,
    ⟨(some 63), .move (.tmp 3), none⟩,
    ⟨(some 64), .call ⟨.value (.func 33), #[(.tmp 61), (.tmp 62), (.tmp 63)], #[35, 3, 3]⟩, none⟩,
    ⟨(some 65), .unOp .not 4 (.tmp 64), none⟩] [0, 11, 12, 65])
  (.cond (.tmp 65) (.seq (.reg [⟨(some 8), .assign (.const (.int .i64 0)), none⟩,
    ⟨(some 9), .assign (.const (.int .i64 1)), none⟩,
    ⟨(some 10), .assign (.const (.bool true)), none⟩] [8, 9, 10])
  .ret)
  .skip))
  (.seq (.reg [⟨(some 67), .move (.tmp 0), none⟩,
    ⟨(some 68), .move (.tmp 11), none⟩,
    ⟨(some 69), .indexAddr 24 (.tmp 67) (.tmp 68), none⟩,
    ⟨(some 70), .fieldAddr 35 (.tmp 69) 2, none⟩,
    ⟨(some 71), .load 3 (.tmp 70), none⟩,
    ⟨(some 72), .move (.tmp 12), none⟩,
    ⟨(some 73), .call ⟨.value (.func 40), #[(.tmp 71), (.tmp 72)], #[3, 3]⟩, none⟩,
    ⟨(some 66), .move (.tmp 73), none⟩,
    ⟨(some 74), .extract (.tmp 66) 0, none⟩,
    ⟨(some 75), .extract (.tmp 66) 1, none⟩,
    ⟨(some 14), .assign (.tmp 74), none⟩,
    ⟨(some 15), .assign (.tmp 75), none⟩] [14, 15])
  (.seq (.reg [⟨(some 76), .move (.tmp 14), none⟩,
    ⟨(some 77), .move (.tmp 15), none⟩,
    ⟨(some 8), .assign (.tmp 76), none⟩,
    ⟨(some 9), .assign (.tmp 77), none⟩,
    ⟨(some 10), .assign (.const (.bool true)), none⟩] [8, 9, 10])
  .ret)))))))))
theorem spec_ChanceOf_k : fnOk Try.prog (fun _ => false) 14 = some (spec_ChanceOf_c.strip, 78, [.tmp 8, .tmp 9, .tmp 10]) := by kernel_rfl
/-- head: [0, 7, 8, 23, 24, 25] -/
def impl_ShareOfSheets_l0 : ACode := (.seq (.reg [⟨(some 26), .binOp .lss 3 (.tmp 25) (.tmp 24) 3, none⟩] [0, 7, 8, 23, 24, 25, 26])
  (.seq (.cond (.tmp 26) .skip
  (.exit 0))
  (.seq (.block 1 (.seq (.reg [⟨(some 27), .indexAddr 24 (.tmp 23) (.tmp 25), none⟩,
    ⟨(some 28), .load 35 (.tmp 27), none⟩,
    ⟨(some 10), .alloc 35, none⟩,
    ⟨none, .store 35 (.tmp 10) (.tmp 28), none⟩] [0, 7, 8, 10, 23, 24, 25])
  (.reg [⟨(some 29), .move (.tmp 8), none⟩,
    ⟨(some 30), .fieldAddr 35 (.tmp 10) 2, none⟩,
    ⟨(some 31), .load 3 (.tmp 30), none⟩,
    ⟨(some 32), .binOp .add 3 (.tmp 29) (.tmp 31) 3, none⟩,
    ⟨(some 8), .assign (.tmp 32), none⟩] [0, 7, 8, 23, 24, 25])))
  (.reg [⟨(some 33), .binOp .add 3 (.tmp 25) (.const (.int .i64 1)) 3, none⟩,
    ⟨(some 25), .move (.tmp 33), none⟩] [0, 7, 8, 23, 24, 25]))))
/-- loop.example/g01062/impl.ShareOfSheets: number 16, params [0, 1] -/
def impl_ShareOfSheets_c : ACode := (.seq (.reg [⟨(some 4), .assign (.const (.int .i64 0)), none⟩,
    ⟨(some 5), .assign (.const (.int .i64 0)), none⟩,
    ⟨(some 6), .assign (.const (.bool false)), none⟩] [0, 1])
  (.seq (.reg [⟨(some 13), .move (.tmp 0), none⟩,
    ⟨(some 14), .move (.tmp 1), none⟩,
    ⟨(some 15), .call ⟨.value (.func 36), #[(.tmp 13), (.tmp 14)], #[24, 3]⟩, none⟩,
    ⟨(some 7), .assign (.tmp 15), none⟩] [0, 7])
  (.seq (.seq (.reg [⟨(some 16), .move (.tmp 0), none⟩,
    ⟨(some 17), .call ⟨.value (.func 26), #[(.tmp 16)], #[24]⟩, none⟩,
    ⟨(some 18), .unOp .not 4 (.tmp 17), none⟩,
    ⟨(some 19), .move (.tmp 18), none⟩,
    ⟨(some 20), .move (.tmp 7), (some (some 19, false))⟩,
    ⟨(some 21), .binOp .lss 3 (.tmp 20) (.const (.int .i64 0)) 3, (some (some 19, false))⟩,
    ⟨(some 22), .pick (.tmp 19) (.const (.bool true)) (.tmp 21), none⟩] [0, 7, 22])
  (.cond (.tmp 22) (.seq (.reg [⟨(some 4), .assign (.const (.int .i64 0)), none⟩,
    ⟨(some 5), .assign (.const (.int .i64 0)), none⟩,
    ⟨(some 6), .assign (.const (.bool false)), none⟩] [4, 5, 6])
  .ret)
  .skip))
  (.seq (.reg [⟨(some 8), .assign (.const (.int .i64 0)), none⟩] [0, 7, 8])
  (.seq (.seq (.reg [⟨(some 23), .move (.tmp 0), none⟩,
    ⟨(some 24), .call ⟨.builtin .len, #[(.tmp 23)], #[24]⟩, none⟩,
    ⟨(some 25), .move (.const (.int .i64 0)), none⟩] [0, 7, 8, 23, 24, 25])
  (.block 0 (.loop impl_ShareOfSheets_l0)))
  (.seq (.reg [⟨(some 35), .move (.tmp 0), none⟩,
    ⟨(some 36), .move (.tmp 7), none⟩,
    ⟨(some 37), .indexAddr 24 (.tmp 35) (.tmp 36), none⟩,
    ⟨(some 38), .fieldAddr 35 (.tmp 37) 2, none⟩,
    ⟨(some 39), .load 3 (.tmp 38), none⟩,
    ⟨(some 40), .move (.tmp 8), none⟩,
    ⟨(some 41), .call ⟨.value (.func 37), #[(.tmp 39), (.tmp 40)], #[3, 3]⟩, none⟩,
    ⟨(some 34), .move (.tmp 41), none⟩,
    ⟨(some 42), .extract (.tmp 34) 0, none⟩,
    ⟨(some 43), .extract (.tmp 34) 1, none⟩,
    ⟨(some 11), .assign (.tmp 42), none⟩,
    ⟨(some 12), .assign (.tmp 43), none⟩] [11, 12])
  (.seq (.reg [⟨(some 44), .move (.tmp 11), none⟩,
    ⟨(some 45), .move (.tmp 12), none⟩,
    ⟨(some 4), .assign (.tmp 44), none⟩,
    ⟨(some 5), .assign (.tmp 45), none⟩,
    ⟨(some 6), .assign (.const (.bool true)), none⟩] [4, 5, 6])
  .ret)))))))
theorem impl_ShareOfSheets_k : fnOk Try.prog (fun _ => false) 16 = some (impl_ShareOfSheets_c.strip, 46, [.tmp 4, .tmp 5, .tmp 6]) := by kernel_rfl
/-- loop.example/g01062/spec.ShareOfSheets: number 17, params [0, 1] -/
def spec_ShareOfSheets_c : ACode := (.seq (.reg [⟨(some 4), .assign (.const (.int .i64 0)), none⟩,
    ⟨(some 5), .assign (.const (.int .i64 0)), none⟩,
    ⟨(some 6), .assign (.const (.bool false)), none⟩] [0, 1])
  (.seq (.reg [⟨(some 10), .move (.tmp 0), none⟩,
    ⟨(some 11), .move (.tmp 1), none⟩,
    ⟨(some 12), .call ⟨.value (.func 39), #[(.tmp 10), (.tmp 11)], #[24, 3]⟩, none⟩,
    ⟨(some 7), .assign (.tmp 12), none⟩] [0, 7])
  (.seq (.seq (.reg [⟨(some 13), .move (.tmp 0), none⟩,
    ⟨(some 14), .call ⟨.value (.func 30), #[(.tmp 13)], #[24]⟩, none⟩,
    ⟨(some 15), .unOp .not 4 (.tmp 14), none⟩,
    ⟨(some 16), .move (.tmp 15), none⟩,
    ⟨(some 17), .move (.tmp 7), (some (some 16, false))⟩,
    ⟨(some 18), .binOp .lss 3 (.tmp 17) (.const (.int .i64 0)) 3, (some (some 16, false))⟩,
    ⟨(some 19), .pick (.tmp 16) (.const (.bool true)) (.tmp 18), none⟩] [0, 7, 19])
  (.cond (.tmp 19) (.seq (.reg [⟨(some 4), .assign (.const (.int .i64 0)), none⟩,
    ⟨(some 5), .assign (.const (.int .i64 0)), none⟩,
    ⟨(some 6), .assign (.const (.bool false)), none⟩] [4, 5, 6])
  .ret)
  .skip))
  (.seq (.regQ [⟨(some 21), .move (.tmp 0), none⟩,
    ⟨(some 22), .move (.tmp 7), none⟩,
    ⟨(some 23), .indexAddr 24 (.tmp 21) (.tmp 22), none⟩,
    ⟨(some 24), .fieldAddr 35 (.tmp 23) 2, none⟩,
    ⟨(some 25), .load 3 (.tmp 24), none⟩,
    ⟨(some 26), .move (.tmp 0), none⟩,
    ⟨(some 27), .call ⟨.value (.func 41), #[(.tmp 26), (.const (.int .i64 4000))], #[24, 3]⟩, none⟩,
    ⟨(some 28), .call ⟨.value (.func 40), #[(.tmp 25), (.tmp 27)], #[3, 3]⟩, none⟩,
    ⟨(some 20), .move (.tmp 28), none⟩,
    ⟨(some 29), .extract (.tmp 20) 0, none⟩,
    ⟨(some 30), .extract (.tmp 20) 1, none⟩,
    ⟨(some 8), .assign (.tmp 29), none⟩,
    ⟨(some 9), .assign (.tmp 30), none⟩] [8, 9])
  (.seq (.reg [⟨(some 31), .move (.tmp 8), none⟩,
    ⟨(some 32), .move (.tmp 9), none⟩,
    ⟨(some 4), .assign (.tmp 31), none⟩,
    ⟨(some 5), .assign (.tmp 32), none⟩,
    ⟨(some 6), .assign (.const (.bool true)), none⟩] [4, 5, 6])
  .ret)))))
theorem spec_ShareOfSheets_k : fnOk Try.prog (fun _ => false) 17 = some (spec_ShareOfSheets_c.strip, 33, [.tmp 4, .tmp 5, .tmp 6]) := by kernel_rfl
/-- head: [1, 6, 17, 18, 19] -/
def impl_SheetsBy_l0 : ACode := (.seq (.reg [⟨(some 20), .binOp .lss 3 (.tmp 19) (.tmp 18) 3, none⟩] [1, 6, 17, 18, 19, 20])
  (.seq (.cond (.tmp 20) .skip
  (.exit 0))
  (.seq (.block 1 (.seq (.reg [⟨(some 21), .indexAddr 24 (.tmp 17) (.tmp 19), none⟩,
    ⟨(some 22), .load 35 (.tmp 21), none⟩,
    ⟨(some 8), .alloc 35, none⟩,
    ⟨none, .store 35 (.tmp 8) (.tmp 22), none⟩] [1, 6, 8, 17, 18, 19])
  (.seq (.reg [⟨(some 23), .fieldAddr 35 (.tmp 8) 1, none⟩,
    ⟨(some 24), .load 3 (.tmp 23), none⟩,
    ⟨(some 25), .move (.tmp 1), none⟩,
    ⟨(some 26), .binOp .leq 3 (.tmp 24) (.tmp 25) 3, none⟩] [1, 6, 8, 17, 18, 19, 26])
  (.cond (.tmp 26) (.reg [⟨(some 27), .move (.tmp 6), none⟩,
    ⟨(some 28), .fieldAddr 35 (.tmp 8) 2, none⟩,
    ⟨(some 29), .load 3 (.tmp 28), none⟩,
    ⟨(some 30), .binOp .add 3 (.tmp 27) (.tmp 29) 3, none⟩,
    ⟨(some 6), .assign (.tmp 30), none⟩] [1, 6, 17, 18, 19])
  .skip))))
  (.reg [⟨(some 31), .binOp .add 3 (.tmp 19) (.const (.int .i64 1)) 3, none⟩,
    ⟨(some 19), .move (.tmp 31), none⟩] [1, 6, 17, 18, 19]))))
/-- loop.example/g01062/impl.SheetsBy: number 18, params [0, 1] -/
def impl_SheetsBy_c : ACode := (.seq (.reg [⟨(some 4), .assign (.const (.int .i64 0)), none⟩,
    ⟨(some 5), .assign (.const (.bool false)), none⟩] [0, 1])
  (.seq (.seq (.reg [⟨(some 9), .move (.tmp 0), none⟩,
    ⟨(some 10), .call ⟨.value (.func 26), #[(.tmp 9)], #[24]⟩, none⟩,
    ⟨(some 11), .unOp .not 4 (.tmp 10), none⟩,
    ⟨(some 12), .move (.tmp 11), none⟩,
    ⟨(some 13), .move (.tmp 1), (some (some 12, false))⟩,
    ⟨(some 14), .call ⟨.value (.func 27), #[(.tmp 13)], #[3]⟩, (some (some 12, false))⟩,
    ⟨(some 15), .unOp .not 4 (.tmp 14), (some (some 12, false))⟩,
    ⟨(some 16), .pick (.tmp 12) (.const (.bool true)) (.tmp 15), none⟩] [0, 1, 16])
  (.cond (.tmp 16) (.seq (.reg [⟨(some 4), .assign (.const (.int .i64 0)), none⟩,
    ⟨(some 5), .assign (.const (.bool false)), none⟩] [4, 5])
  .ret)
  .skip))
  (.seq (.reg [⟨(some 6), .assign (.const (.int .i64 0)), none⟩] [0, 1, 6])
  (.seq (.seq (.reg [⟨(some 17), .move (.tmp 0), none⟩,
    ⟨(some 18), .call ⟨.builtin .len, #[(.tmp 17)], #[24]⟩, none⟩,
    ⟨(some 19), .move (.const (.int .i64 0)), none⟩] [1, 6, 17, 18, 19])
  (.block 0 (.loop impl_SheetsBy_l0)))
  (.seq (.reg [⟨(some 32), .move (.tmp 6), none⟩,
    ⟨(some 4), .assign (.tmp 32), none⟩,
    ⟨(some 5), .assign (.const (.bool true)), none⟩] [4, 5])
  .ret)))))
theorem impl_SheetsBy_k : fnOk Try.prog (fun _ => false) 18 = some (impl_SheetsBy_c.strip, 33, [.tmp 4, .tmp 5]) := by kernel_rfl
/-- loop.example/g01062/spec.SheetsBy: number 20, params [0, 1] -/
def spec_SheetsBy_c : ACode := (.seq (.reg [⟨(some 4), .assign (.const (.int .i64 0)), none⟩,
    ⟨(some 5), .assign (.const (.bool false)), none⟩] [0, 1])
  (.seq (.seq (.reg [⟨(some 6), .move (.tmp 0), none⟩,
    ⟨(some 7), .call ⟨.value (.func 30), #[(.tmp 6)], #[24]⟩, none⟩,
    ⟨(some 8), .unOp .not 4 (.tmp 7), none⟩,
    ⟨(some 9), .move (.tmp 8), none⟩,
    ⟨(some 10), .move (.tmp 1), (some (some 9, false))⟩,
    ⟨(some 11), .call ⟨.value (.func 31), #[(.tmp 10)], #[3]⟩, (some (some 9, false))⟩,
    ⟨(some 12), .unOp .not 4 (.tmp 11), (some (some 9, false))⟩,
    ⟨(some 13), .pick (.tmp 9) (.const (.bool true)) (.tmp 12), none⟩] [0, 1, 13])
  (.cond (.tmp 13) (.seq (.reg [⟨(some 4), .assign (.const (.int .i64 0)), none⟩,
    ⟨(some 5), .assign (.const (.bool false)), none⟩] [4, 5])
  .ret)
  .skip))
  (.seq (.reg [⟨(some 14), .move (.tmp 0), none⟩,
    ⟨(some 15), .move (.tmp 1), none⟩,
    ⟨(some 16), .call ⟨.value (.func 41), #[(.tmp 14), (.tmp 15)], #[24, 3]⟩, none⟩,
    ⟨(some 4), .assign (.tmp 16), none⟩,
    ⟨(some 5), .assign (.const (.bool true)), none⟩] [4, 5])
  .ret)))
theorem spec_SheetsBy_k : fnOk Try.prog (fun _ => false) 20 = some (spec_SheetsBy_c.strip, 17, [.tmp 4, .tmp 5]) := by kernel_rfl
/-- loop.example/g01062/impl.ArePrintings: number 21, params [0] -/
def impl_ArePrintings_c : ACode := (.seq (.reg [⟨(some 2), .assign (.const (.bool false)), none⟩] [0])
  (.seq (.reg [⟨(some 3), .move (.tmp 0), none⟩,
    ⟨(some 4), .call ⟨.value (.func 26), #[(.tmp 3)], #[24]⟩, none⟩,
    ⟨(some 2), .assign (.tmp 4), none⟩] [2])
  .ret))
theorem impl_ArePrintings_k : fnOk Try.prog (fun _ => false) 21 = some (impl_ArePrintings_c.strip, 5, [.tmp 2]) := by kernel_rfl
/-- loop.example/g01062/spec.ArePrintings: number 22, params [0] -/
def spec_ArePrintings_c : ACode := (.seq (.reg [⟨(some 2), .assign (.const (.bool false)), none⟩] [0])
  (.seq (.reg [⟨(some 3), .move (.tmp 0), none⟩,
    ⟨(some 4), .call ⟨.value (.func 30), #[(.tmp 3)], #[24]⟩, none⟩,
    ⟨(some 2), .assign (.tmp 4), none⟩] [2])
  .ret))
theorem spec_ArePrintings_k : fnOk Try.prog (fun _ => false) 22 = some (spec_ArePrintings_c.strip, 5, [.tmp 2]) := by kernel_rfl
/-- head: [0, 5, 6, 7] -/
def impl_arePrintings_l0 : ACode := (.seq (.reg [⟨(some 8), .binOp .lss 3 (.tmp 7) (.tmp 6) 3, none⟩] [0, 5, 6, 7, 8])
  (.seq (.cond (.tmp 8) .skip
  (.exit 0))
  (.seq (.block 1 (.seq (.reg [⟨(some 9), .move (.tmp 7), none⟩,
    ⟨(some 10), .indexAddr 24 (.tmp 5) (.tmp 7), none⟩,
    ⟨(some 11), .load 35 (.tmp 10), none⟩,
    ⟨(some 4), .alloc 35, none⟩,
    ⟨(some 3), .assign (.tmp 9), none⟩,
    ⟨none, .store 35 (.tmp 4) (.tmp 11), none⟩] [0, 3, 4, 5, 6, 7])
  (.seq (.regQ [⟨(some 12), .load 35 (.tmp 4), none⟩,
    ⟨(some 13), .call ⟨.value (.func 48), #[(.tmp 12)], #[35]⟩, none⟩,
    ⟨(some 14), .unOp .not 4 (.tmp 13), none⟩,
    ⟨(some 15), .move (.tmp 14), none⟩,
    ⟨(some 16), .move (.tmp 3), (some (some 15, false))⟩,
    ⟨(some 17), .binOp .gtr 3 (.tmp 16) (.const (.int .i64 0)) 3, (some (some 15, false))⟩,
    ⟨(some 18), .move (.tmp 17), (some (some 15, false))⟩,
    ⟨(some 19), .move (.tmp 0), (some (some 18, true))⟩,
    ⟨(some 20), .move (.tmp 3), (some (some 18, true))⟩,
    ⟨(some 21), .binOp .sub 3 (.tmp 20) (.const (.int .i64 1)) 3, (some (some 18, true))⟩,
    ⟨(some 22), .indexAddr 24 (.tmp 19) (.tmp 21), (some (some 18, true))⟩,
    ⟨(some 23), .fieldAddr 35 (.tmp 22) 0, (some (some 18, true))⟩,
    ⟨(some 24), .load 3 (.tmp 23), (some (some 18, true))⟩,
    ⟨(some 25), .fieldAddr 35 (.tmp 4) 0, (some (some 18, true))⟩,
    ⟨(some 26), .load 3 (.tmp 25), (some (some 18, true))⟩,
    ⟨(some 27), .binOp .geq 3 (.tmp 24) (.tmp 26) 3, (some (some 18, true))⟩,
    ⟨(some 28), .move (.tmp 27), (some (some 18, true))⟩,
    ⟨(some 29), .move (.tmp 0), (some (some 28, false))⟩,
    ⟨(some 30), .move (.tmp 3), (some (some 28, false))⟩,
    ⟨(some 31), .binOp .sub 3 (.tmp 30) (.const (.int .i64 1)) 3, (some (some 28, false))⟩,
    ⟨(some 32), .indexAddr 24 (.tmp 29) (.tmp 31), (some (some 28, false))⟩,
    ⟨(some 33), .fieldAddr 35 (.tmp 32) 1, (some (some 28, false))⟩,
    ⟨(some 34), .load 3 (.tmp 33), (some (some 28, false))⟩,
    ⟨(some 35), .fieldAddr 35 (.tmp 4) 1, (some (some 28, false))⟩,
    ⟨(some 36), .load 3 (.tmp 35), (some (some 28, false))⟩,
    ⟨(some 37), .binOp .geq 3 (.tmp 34) (.tmp 36) 3, (some (some 28, false))⟩,
    ⟨(some 38), .pick (.tmp 28) (.const (.bool true)) (.tmp 37), (some (some 18, true))⟩,
    ⟨(some 39), .pick (.tmp 18) (.tmp 38) (.const (.bool false)), (some (some 15, false))⟩,
    ⟨(some 40), .pick (.tmp 15) (.const (.bool true)) (.tmp 39), none⟩] [0, 5, 6, 7, 40])
  (.cond (.tmp 40) (.seq (.reg [⟨(some 2), .assign (.const (.bool false)), none⟩] [2])
  .ret)
  .skip))))
  (.reg [⟨(some 41), .binOp .add 3 (.tmp 7) (.const (.int .i64 1)) 3, none⟩,
    ⟨(some 7), .move (.tmp 41), none⟩] [0, 5, 6, 7]))))
/-- loop.example/g01062/impl.arePrintings: number 26, params [0] -/
def impl_arePrintings_c : ACode := (.seq (.reg [⟨(some 2), .assign (.const (.bool false)), none⟩] [0])
  (.seq (.seq (.reg [⟨(some 5), .move (.tmp 0), none⟩,
    ⟨(some 6), .call ⟨.builtin .len, #[(.tmp 5)], #[24]⟩, none⟩,
    ⟨(some 7), .move (.const (.int .i64 0)), none⟩] [0, 5, 6, 7])
  (.block 0 (.loop impl_arePrintings_l0)))
  (.seq (.reg [⟨(some 42), .move (.tmp 0), none⟩,
    ⟨(some 43), .call ⟨.builtin .len, #[(.tmp 42)], #[24]⟩, none⟩,
    ⟨(some 44), .binOp .leq 3 (.tmp 43) (.const (.int .i64 12)) 3, none⟩,
    ⟨(some 2), .assign (.tmp 44), none⟩] [2])
  .ret)))
theorem impl_arePrintings_k : fnOk Try.prog (fun _ => false) 26 = some (impl_arePrintings_c.strip, 45, [.tmp 2]) := by kernel_rfl
/-- loop.example/g01062/impl.isDay: number 27, params [0] -/
def impl_isDay_c : ACode := (.seq (.reg [⟨(some 2), .assign (.const (.bool false)), none⟩] [0])
  (.seq (.reg [⟨(some 3), .move (.tmp 0), none⟩,
    ⟨(some 4), .call ⟨.value (.func 49), #[(.tmp 3), (.const (.int .i64 0)), (.const (.int .i64 4000))], #[3, 3, 3]⟩, none⟩,
    ⟨(some 2), .assign (.tmp 4), none⟩] [2])
  .ret))
theorem impl_isDay_k : fnOk Try.prog (fun _ => false) 27 = some (impl_isDay_c.strip, 5, [.tmp 2]) := by kernel_rfl
/-- loop.example/g01062/impl.isTone: number 28, params [0] -/
def impl_isTone_c : ACode := (.seq (.reg [⟨(some 2), .assign (.const (.bool false)), none⟩] [0])
  (.seq (.reg [⟨(some 3), .move (.tmp 0), none⟩,
    ⟨(some 4), .call ⟨.value (.func 49), #[(.tmp 3), (.const (.int .i64 (-20))), (.const (.int .i64 120))], #[3, 3, 3]⟩, none⟩,
    ⟨(some 2), .assign (.tmp 4), none⟩] [2])
  .ret))
theorem impl_isTone_k : fnOk Try.prog (fun _ => false) 28 = some (impl_isTone_c.strip, 5, [.tmp 2]) := by kernel_rfl
/-- (loop.example/g01062/impl.Printing).canBe: number 29, params [0, 1, 2] -/
def _impl_Printing__canBe_c : ACode := (.seq (.reg [⟨(some 3), .box 35 (.tmp 0), none⟩,
    ⟨(some 6), .assign (.const (.bool false)), none⟩] [1, 2, 3])
  (.seq (.reg [⟨(some 7), .fieldAddr 35 (.tmp 3) 1, none⟩,
    ⟨(some 8), .load 3 (.tmp 7), none⟩,
    ⟨(some 9), .move (.tmp 1), none⟩,
    ⟨(some 10), .binOp .leq 3 (.tmp 8) (.tmp 9) 3, none⟩,
    ⟨(some 11), .move (.tmp 10), none⟩,
    ⟨(some 12), .load 35 (.tmp 3), (some (some 11, true))⟩,
    ⟨(some 13), .move (.tmp 2), (some (some 11, true))⟩,
    ⟨(some 14), .call ⟨.value (.func 34), #[(.tmp 12), (.tmp 13)], #[35, 3]⟩, (some (some 11, true))⟩,
    ⟨(some 15), .pick (.tmp 11) (.tmp 14) (.const (.bool false)), none⟩,
    ⟨(some 6), .assign (.tmp 15), none⟩] [6])
  .ret))
theorem _impl_Printing__canBe_k : fnOk Try.prog (fun _ => false) 29 = some (_impl_Printing__canBe_c.strip, 16, [.tmp 6]) := by kernel_rfl
/-- head: [0, 3] -/
def spec_l14Good_l0 : ACode := (.seq (.seq (.reg [⟨(some 4), .move (.tmp 3), none⟩,
    ⟨(some 5), .move (.tmp 0), none⟩,
    ⟨(some 6), .call ⟨.builtin .len, #[(.tmp 5)], #[24]⟩, none⟩,
    ⟨(some 7), .binOp .lss 3 (.tmp 4) (.tmp 6) 3, none⟩] [0, 3, 7])
  (.cond (.tmp 7) .skip
  (.exit 0)))
  (.seq (.block 1 (.seq (.regQ [⟨(some 10), .move (.tmp 0), none⟩,
    ⟨(some 11), .move (.tmp 3), none⟩,
    ⟨(some 12), .indexAddr 24 (.tmp 10) (.tmp 11), none⟩,
    ⟨(some 13), .load 35 (.tmp 12), none⟩,
    ⟨(some 14), .call ⟨.value (.func 50), #[(.tmp 13)], #[35]⟩, none⟩,
    ⟨(some 15), .unOp .not 4 (.tmp 14), none⟩,
    ⟨(some 16), .move (.tmp 15), none⟩,
    ⟨(some 17), .move (.tmp 3), (some (some 16, false))⟩,
    ⟨(some 18), .binOp .gtr 3 (.tmp 17) (.const (.int .i64 0)) 3, (some (some 16, false))⟩,
    ⟨(some 19), .move (.tmp 18), (some (some 16, false))⟩,
    ⟨(some 20), .move (.tmp 0), (some (some 19, true))⟩,
    ⟨(some 21), .move (.tmp 3), (some (some 19, true))⟩,
    ⟨(some 22), .binOp .sub 3 (.tmp 21) (.const (.int .i64 1)) 3, (some (some 19, true))⟩,
    ⟨(some 23), .indexAddr 24 (.tmp 20) (.tmp 22), (some (some 19, true))⟩,
    ⟨(some 24), .fieldAddr 35 (.tmp 23) 0, (some (some 19, true))⟩,
    ⟨(some 25), .load 3 (.tmp 24), (some (some 19, true))⟩,
    ⟨(some 26), .move (.tmp 0), (some (some 19, true))⟩,
    ⟨(some 27), .move (.tmp 3), (some (some 19, true))⟩,
    ⟨(some 28), .indexAddr 24 (.tmp 26) (.tmp 27), (some (some 19, true))⟩,
    ⟨(some 29), .fieldAddr 35 (.tmp 28) 0, (some (some 19, true))⟩,
    ⟨(some 30), .load 3 (.tmp 29), (some (some 19, true))⟩,
    ⟨(some 31), .binOp .geq 3 (.tmp 25) (.tmp 30) 3, (some (some 19, true))⟩,
    ⟨(some 32), .move (.tmp 31), (some (some 19, true))⟩,
    ⟨(some 33), .move (.tmp 0), (some (some 32, false))⟩,
    ⟨(some 34), .move (.tmp 3), (some (some 32, false))⟩,
    ⟨(some 35), .binOp .sub 3 (.tmp 34) (.const (.int .i64 1)) 3, (some (some 32, false))⟩,
    ⟨(some 36), .indexAddr 24 (.tmp 33) (.tmp 35), (some (some 32, false))⟩,
    ⟨(some 37), .fieldAddr 35 (.tmp 36) 1, (some (some 32, false))⟩,
    ⟨(some 38), .load 3 (.tmp 37), (some (some 32, false))⟩,
    ⟨(some 39), .move (.tmp 0), (some (some 32, false))⟩,
    ⟨(some 40), .move (.tmp 3), (some (some 32, false))⟩,
    ⟨(some 41), .indexAddr 24 (.tmp 39) (.tmp 40), (some (some 32, false))⟩,
    ⟨(some 42), .fieldAddr 35 (.tmp 41) 1, (some (some 32, false))⟩,
    ⟨(some 43), .load 3 (.tmp 42), (some (some 32, false))⟩,
    ⟨(some 44), .binOp .geq 3 (.tmp 38) (.tmp 43) 3, (some (some 32, false))⟩,
    ⟨(some 45), .pick (.tmp 32) (.const (.bool true)) (.tmp 44), (some (some 19, true))⟩,
    ⟨(some 46), .pick (.tmp 19) (.tmp 45) (.const (.bool false)), (some (some 16, false))⟩,
    ⟨(some 47), .pick (.tmp 16) (.const (.bool true)) (.tmp 46), none⟩] [0, 3, 47])
  (.cond (.tmp 47) (.seq (.reg [⟨(some 2), .assign (.const (.bool false)), none⟩] [2])
  .ret)
  .skip)))
  (.reg [⟨(some 8), .move (.tmp 3), none⟩,
    ⟨(some 9), .binOp .add 3 (.tmp 8) (.const (.int .i64 1)) 3, none⟩,
    ⟨(some 3), .assign (.tmp 9), none⟩] [0, 3])))
/-- loop.example/g01062/spec.l14Good: number 30, params [0] -/
def spec_l14Good_c : ACode := (.seq (.reg [⟨(some 2), .assign (.const (.bool false)), none⟩] [0])
  (.seq (.seq (.reg [⟨(some 3), .assign (.const (.int .i64 0)), none⟩] [0, 3])
  (.block 0 (.loop spec_l14Good_l0)))
  (.seq (.reg [⟨(some 48), .move (.tmp 0), none⟩,
    ⟨(some 49), .call ⟨.builtin .len, #[(.tmp 48)], #[24]⟩, none⟩,
    ⟨(some 50), .binOp .leq 3 (.tmp 49) (.const (.int .i64 12)) 3, none⟩,
    ⟨(some 2), .assign (.tmp 50), none⟩] [2])
  .ret)))
theorem spec_l14Good_k : fnOk Try.prog (fun _ => false) 30 = some (spec_l14Good_c.strip, 51, [.tmp 2]) := by kernel_rfl
/-- loop.example/g01062/spec.l2Day: number 31, params [0] -/
def spec_l2Day_c : ACode := (.seq (.reg [⟨(some 2), .assign (.const (.bool false)), none⟩] [0])
  (.seq (.reg [⟨(some 3), .move (.tmp 0), none⟩,
    ⟨(some 4), .call ⟨.value (.func 51), #[(.tmp 3), (.const (.int .i64 0)), (.const (.int .i64 4000))], #[3, 3, 3]⟩, none⟩,
    ⟨(some 2), .assign (.tmp 4), none⟩] [2])
  .ret))
theorem spec_l2Day_k : fnOk Try.prog (fun _ => false) 31 = some (spec_l2Day_c.strip, 5, [.tmp 2]) := by kernel_rfl
/-- loop.example/g01062/spec.l14Tone: number 32, params [0] -/
def spec_l14Tone_c : ACode := (.seq (.reg [⟨(some 2), .assign (.const (.bool false)), none⟩] [0])
  (.seq (.reg [⟨(some 3), .move (.tmp 0), none⟩,
    ⟨(some 4), .call ⟨.value (.func 51), #[(.tmp 3), (.const (.int .i64 (-20))), (.const (.int .i64 120))], #[3, 3, 3]⟩, none⟩,
    ⟨(some 2), .assign (.tmp 4), none⟩] [2])
  .ret))
theorem spec_l14Tone_k : fnOk Try.prog (fun _ => false) 32 = some (spec_l14Tone_c.strip, 5, [.tmp 2]) := by kernel_rfl
/-- loop.example/g01062/spec.l14Can: number 33, params [0, 1, 2] -/
def spec_l14Can_c : ACode := (.seq (.reg [⟨(some 3), .box 35 (.tmp 0), none⟩,
    ⟨(some 6), .assign (.const (.bool false)), none⟩] [1, 2, 3])
  (.seq (.reg [⟨(some 7), .fieldAddr 35 (.tmp 3) 1, none⟩,
    ⟨(some 8), .load 3 (.tmp 7), none⟩,
    ⟨(some 9), .move (.tmp 1), none⟩,
    ⟨(some 10), .binOp .leq 3 (.tmp 8) (.tmp 9) 3, none⟩,
    ⟨(some 11), .move (.tmp 10), none⟩,
    ⟨(some 12), .load 35 (.tmp 3), (some (some 11, true))⟩,
    ⟨(some 13), .move (.tmp 2), (some (some 11, true))⟩,
    ⟨(some 14), .call ⟨.value (.func 35), #[(.tmp 12), (.tmp 13)], #[35, 3]⟩, (some (some 11, true))⟩,
    ⟨(some 15), .pick (.tmp 11) (.tmp 14) (.const (.bool false)), none⟩,
    ⟨(some 6), .assign (.tmp 15), none⟩] [6])
  .ret))
theorem spec_l14Can_k : fnOk Try.prog (fun _ => false) 33 = some (spec_l14Can_c.strip, 16, [.tmp 6]) := by kernel_rfl
/-- (loop.example/g01062/impl.Printing).has: number 34, params [0, 1] -/
def _impl_Printing__has_c : ACode := (.seq (.reg [⟨(some 2), .box 35 (.tmp 0), none⟩,
    ⟨(some 4), .assign (.const (.bool false)), none⟩] [1, 2])
  (.seq (.reg [⟨(some 5), .move (.tmp 1), none⟩,
    ⟨(some 6), .fieldAddr 35 (.tmp 2) 3, none⟩,
    ⟨(some 7), .load 3 (.tmp 6), none⟩,
    ⟨(some 8), .fieldAddr 35 (.tmp 2) 4, none⟩,
    ⟨(some 9), .load 3 (.tmp 8), none⟩,
    ⟨(some 10), .binOp .sub 3 (.tmp 7) (.tmp 9) 3, none⟩,
    ⟨(some 11), .fieldAddr 35 (.tmp 2) 3, none⟩,
    ⟨(some 12), .load 3 (.tmp 11), none⟩,
    ⟨(some 13), .fieldAddr 35 (.tmp 2) 4, none⟩,
    ⟨(some 14), .load 3 (.tmp 13), none⟩,
    ⟨(some 15), .binOp .add 3 (.tmp 12) (.tmp 14) 3, none⟩,
    ⟨(some 16), .call ⟨.value (.func 49), #[(.tmp 5), (.tmp 10), (.tmp 15)], #[3, 3, 3]⟩, none⟩,
    ⟨(some 4), .assign (.tmp 16), none⟩] [4])
  .ret))
theorem _impl_Printing__has_k : fnOk Try.prog (fun _ => false) 34 = some (_impl_Printing__has_c.strip, 17, [.tmp 4]) := by kernel_rfl
/-- loop.example/g01062/spec.l14Has: number 35, params [0, 1] -/
def spec_l14Has_c : ACode := (.seq (.reg [⟨(some 2), .box 35 (.tmp 0), none⟩,
    ⟨(some 4), .assign (.const (.bool false)), none⟩] [1, 2])
  (.seq (.reg [⟨(some 5), .move (.tmp 1), none⟩,
    ⟨(some 6), .fieldAddr 35 (.tmp 2) 3, none⟩,
    ⟨(some 7), .load 3 (.tmp 6), none⟩,
    ⟨(some 8), .fieldAddr 35 (.tmp 2) 4, none⟩,
    ⟨(some 9), .load 3 (.tmp 8), none⟩,
    ⟨(some 10), .binOp .sub 3 (.tmp 7) (.tmp 9) 3, none⟩,
    ⟨(some 11), .fieldAddr 35 (.tmp 2) 3, none⟩,
    ⟨(some 12), .load 3 (.tmp 11), none⟩,
    ⟨(some 13), .fieldAddr 35 (.tmp 2) 4, none⟩,
    ⟨(some 14), .load 3 (.tmp 13), none⟩,
    ⟨(some 15), .binOp .add 3 (.tmp 12) (.tmp 14) 3, none⟩,
    ⟨(some 16), .call ⟨.value (.func 51), #[(.tmp 5), (.tmp 10), (.tmp 15)], #[3, 3, 3]⟩, none⟩,
    ⟨(some 4), .assign (.tmp 16), none⟩] [4])
  .ret))
theorem spec_l14Has_k : fnOk Try.prog (fun _ => false) 35 = some (spec_l14Has_c.strip, 17, [.tmp 4]) := by kernel_rfl
/-- loop.example/g01062/impl.printingAt: number 36, params [0, 1] -/
def impl_printingAt_c : ACode := (.seq (.reg [⟨(some 3), .box 3 (.tmp 1), none⟩,
    ⟨(some 4), .assign (.const (.int .i64 0)), none⟩] [0, 3])
  (.seq (.reg [⟨(some 5), .move (.tmp 0), none⟩,
    ⟨(some 6), .makeFunc (.func 53) #[] #[(.tmp 3)], none⟩,
    ⟨(some 7), .call ⟨.value (.func 52), #[(.tmp 5), (.tmp 6)], #[24, 61]⟩, none⟩,
    ⟨(some 4), .assign (.tmp 7), none⟩] [4])
  .ret))
theorem impl_printingAt_k : fnOk Try.prog (fun _ => false) 36 = some (impl_printingAt_c.strip, 8, [.tmp 4]) := by kernel_rfl
/-- loop.example/g01062/impl.fraction: number 37, params [0, 1] -/
def impl_fraction_c : ACode := (.seq (.reg [⟨(some 4), .assign (.const (.int .i64 0)), none⟩,
    ⟨(some 5), .assign (.const (.int .i64 0)), none⟩] [0, 1])
  (.seq (.reg [⟨(some 7), .move (.tmp 0), none⟩,
    ⟨(some 8), .move (.tmp 0), none⟩,
    ⟨(some 9), .unOp .neg 3 (.tmp 8), none⟩,
    ⟨(some 10), .call ⟨.builtin .max, #[(.tmp 7), (.tmp 9)], #[3, 3]⟩, none⟩,
    ⟨(some 11), .move (.tmp 1), none⟩,
    ⟨(some 12), .call ⟨.value (.func 54), #[(.tmp 10), (.tmp 11)], #[3, 3]⟩, none⟩,
    ⟨(some 6), .assign (.tmp 12), none⟩] [0, 1, 6])
  (.seq (.regQ [⟨(some 13), .move (.tmp 0), none⟩,
    ⟨(some 14), .move (.tmp 6), none⟩,
    ⟨(some 15), .binOp .quo 3 (.tmp 13) (.tmp 14) 3, none⟩,
    ⟨(some 16), .move (.tmp 1), none⟩,
    ⟨(some 17), .move (.tmp 6), none⟩,
    ⟨(some 18), .binOp .quo 3 (.tmp 16) (.tmp 17) 3, none⟩,
    ⟨(some 4), .assign (.tmp 15), none⟩,
    ⟨(some 5), .assign (.tmp 18), none⟩] [4, 5])
  .ret)))
theorem impl_fraction_k : fnOk Try.prog (fun _ => false) 37 = some (impl_fraction_c.strip, 19, [.tmp 4, .tmp 5]) := by kernel_rfl
/-- head: [0, 1, 5] -/
def spec_l14Find_l0 : ACode := (.seq (.seq (.reg [⟨(some 6), .move (.tmp 5), none⟩,
    ⟨(some 7), .move (.tmp 0), none⟩,
    ⟨(some 8), .call ⟨.builtin .len, #[(.tmp 7)], #[24]⟩, none⟩,
    ⟨(some 9), .binOp .lss 3 (.tmp 6) (.tmp 8) 3, none⟩] [0, 1, 5, 9])
  (.cond (.tmp 9) .skip
  (.exit 0)))
  (.seq (.block 1 (.seq (.reg [⟨(some 12), .move (.tmp 0), none⟩,
    ⟨(some 13), .move (.tmp 5), none⟩,
    ⟨(some 14), .indexAddr 24 (.tmp 12) (.tmp 13), none⟩,
    ⟨(some 15), .fieldAddr 35 (.tmp 14) 0, none⟩,
    ⟨(some 16), .load 3 (.tmp 15), none⟩,
    ⟨(some 17), .move (.tmp 1), none⟩,
    ⟨(some 18), .binOp .eql 3 (.tmp 16) (.tmp 17) 3, none⟩] [0, 1, 5, 18])
  (.cond (.tmp 18) (.seq (.reg [⟨(some 19), .move (.tmp 5), none⟩,
    ⟨(some 4), .assign (.tmp 19), none⟩] [4])
  .ret)
  .skip)))
  (.reg [⟨(some 10), .move (.tmp 5), none⟩,
    ⟨(some 11), .binOp .add 3 (.tmp 10) (.const (.int .i64 1)) 3, none⟩,
    ⟨(some 5), .assign (.tmp 11), none⟩] [0, 1, 5])))
/-- loop.example/g01062/spec.l14Find: number 39, params [0, 1] -/
def spec_l14Find_c : ACode := (.seq (.reg [⟨(some 4), .assign (.const (.int .i64 0)), none⟩] [0, 1])
  (.seq (.seq (.reg [⟨(some 5), .assign (.const (.int .i64 0)), none⟩] [0, 1, 5])
  (.block 0 (.loop spec_l14Find_l0)))
  (.seq (.reg [⟨(some 4), .assign (.const (.int .i64 (-1))), none⟩] [4])
  .ret)))
theorem spec_l14Find_k : fnOk Try.prog (fun _ => false) 39 = some (spec_l14Find_c.strip, 20, [.tmp 4]) := by kernel_rfl
/-- head: [0, 1, 6, 7] -/
def spec_l2Reduce_l0 : ACode := (.seq (.seq (.reg [⟨(some 14), .move (.tmp 7), none⟩,
    ⟨(some 15), .binOp .neq 3 (.tmp 14) (.const (.int .i64 0)) 3, none⟩] [0, 1, 6, 7, 15])
  (.cond (.tmp 15) .skip
  (.exit 0)))
  (.block 1 (.seq (.reg [⟨(some 16), .move (.tmp 6), none⟩,
    ⟨(some 17), .move (.tmp 7), none⟩,
    ⟨(some 18), .binOp .rem 3 (.tmp 16) (.tmp 17) 3, none⟩,
    ⟨(some 8), .assign (.tmp 18), none⟩] [0, 1, 7, 8])
  (.seq (.reg [⟨(some 19), .move (.tmp 7), none⟩,
    ⟨(some 6), .assign (.tmp 19), none⟩] [0, 1, 6, 8])
  (.reg [⟨(some 20), .move (.tmp 8), none⟩,
    ⟨(some 7), .assign (.tmp 20), none⟩] [0, 1, 6, 7])))))
/-- loop.example/g01062/spec.l2Reduce: number 40, params [0, 1] -/
def spec_l2Reduce_c : ACode := (.seq (.reg [⟨(some 4), .assign (.const (.int .i64 0)), none⟩,
    ⟨(some 5), .assign (.const (.int .i64 0)), none⟩] [0, 1])
  (.seq (.reg [⟨(some 9), .move (.tmp 0), none⟩,
    ⟨(some 10), .move (.tmp 0), none⟩,
    ⟨(some 11), .unOp .neg 3 (.tmp 10), none⟩,
    ⟨(some 12), .call ⟨.value (.func 47), #[(.tmp 9), (.tmp 11)], #[3, 3]⟩, none⟩,
    ⟨(some 13), .move (.tmp 1), none⟩,
    ⟨(some 6), .assign (.tmp 12), none⟩,
    ⟨(some 7), .assign (.tmp 13), none⟩] [0, 1, 6, 7])
  (.seq (.block 0 (.loop spec_l2Reduce_l0))
  (.seq (.regQ [⟨(some 21), .move (.tmp 0), none⟩,
    ⟨(some 22), .move (.tmp 6), none⟩,
    ⟨(some 23), .binOp .quo 3 (.tmp 21) (.tmp 22) 3, none⟩,
    ⟨(some 24), .move (.tmp 1), none⟩,
    ⟨(some 25), .move (.tmp 6), none⟩,
    ⟨(some 26), .binOp .quo 3 (.tmp 24) (.tmp 25) 3, none⟩,
    ⟨(some 4), .assign (.tmp 23), none⟩,
    ⟨(some 5), .assign (.tmp 26), none⟩] [4, 5])
  .ret))))
theorem spec_l2Reduce_k : fnOk Try.prog (fun _ => false) 40 = some (spec_l2Reduce_c.strip, 27, [.tmp 4, .tmp 5]) := by kernel_rfl
/-- head: [0, 1, 5, 6] -/
def spec_l14Sum_l0 : ACode := (.seq (.seq (.reg [⟨(some 7), .move (.tmp 6), none⟩,
    ⟨(some 8), .move (.tmp 0), none⟩,
    ⟨(some 9), .call ⟨.builtin .len, #[(.tmp 8)], #[24]⟩, none⟩,
    ⟨(some 10), .binOp .lss 3 (.tmp 7) (.tmp 9) 3, none⟩] [0, 1, 5, 6, 10])
  (.cond (.tmp 10) .skip
  (.exit 0)))
  (.seq (.block 1 (.seq (.reg [⟨(some 13), .move (.tmp 0), none⟩,
    ⟨(some 14), .move (.tmp 6), none⟩,
    ⟨(some 15), .indexAddr 24 (.tmp 13) (.tmp 14), none⟩,
    ⟨(some 16), .fieldAddr 35 (.tmp 15) 1, none⟩,
    ⟨(some 17), .load 3 (.tmp 16), none⟩,
    ⟨(some 18), .move (.tmp 1), none⟩,
    ⟨(some 19), .binOp .leq 3 (.tmp 17) (.tmp 18) 3, none⟩] [0, 1, 5, 6, 19])
  (.cond (.tmp 19) (.reg [⟨(some 20), .move (.tmp 5), none⟩,
    ⟨(some 21), .move (.tmp 0), none⟩,
    ⟨(some 22), .move (.tmp 6), none⟩,
    ⟨(some 23), .indexAddr 24 (.tmp 21) (.tmp 22), none⟩,
    ⟨(some 24), .fieldAddr 35 (.tmp 23) 2, none⟩,
    ⟨(some 25), .load 3 (.tmp 24), none⟩,
    ⟨(some 26), .binOp .add 3 (.tmp 20) (.tmp 25) 3, none⟩,
    ⟨(some 5), .assign (.tmp 26), none⟩] [0, 1, 5, 6])
  .skip)))
  (.reg [⟨(some 11), .move (.tmp 6), none⟩,
    ⟨(some 12), .binOp .add 3 (.tmp 11) (.const (.int .i64 1)) 3, none⟩,
    ⟨(some 6), .assign (.tmp 12), none⟩] [0, 1, 5, 6])))
/-- loop.example/g01062/spec.l14Sum: number 41, params [0, 1] -/
def spec_l14Sum_c : ACode := (.seq (.reg [⟨(some 4), .assign (.const (.int .i64 0)), none⟩] [0, 1])
  (.seq (.reg [⟨(some 5), .assign (.const (.int .i64 0)), none⟩] [0, 1, 5])
  (.seq (.seq (.reg [⟨(some 6), .assign (.const (.int .i64 0)), none⟩] [0, 1, 5, 6])
  (.block 0 (.loop spec_l14Sum_l0)))
  (.seq (.reg [⟨(some 27), .move (.tmp 5), none⟩,
    ⟨(some 4), .assign (.tmp 27), none⟩] [4])
  .ret))))
theorem spec_l14Sum_k : fnOk Try.prog (fun _ => false) 41 = some (spec_l14Sum_c.strip, 28, [.tmp 4]) := by kernel_rfl
/-- loop.example/g01062/spec.l1Least: number 46, params [0, 1] -/
def spec_l1Least_c : ACode := (.seq (.reg [⟨(some 4), .assign (.const (.int .i64 0)), none⟩] [0, 1])
  (.seq (.seq (.reg [⟨(some 5), .move (.tmp 0), none⟩,
    ⟨(some 6), .move (.tmp 1), none⟩,
    ⟨(some 7), .binOp .lss 3 (.tmp 5) (.tmp 6) 3, none⟩] [0, 1, 7])
  (.cond (.tmp 7) (.seq (.reg [⟨(some 8), .move (.tmp 0), none⟩,
    ⟨(some 4), .assign (.tmp 8), none⟩] [4])
  .ret)
  .skip))
  (.seq (.reg [⟨(some 9), .move (.tmp 1), none⟩,
    ⟨(some 4), .assign (.tmp 9), none⟩] [4])
  .ret)))
theorem spec_l1Least_k : fnOk Try.prog (fun _ => false) 46 = some (spec_l1Least_c.strip, 10, [.tmp 4]) := by kernel_rfl
/-- loop.example/g01062/spec.l1Most: number 47, params [0, 1] -/
def spec_l1Most_c : ACode := (.seq (.reg [⟨(some 4), .assign (.const (.int .i64 0)), none⟩] [0, 1])
  (.seq (.seq (.reg [⟨(some 5), .move (.tmp 0), none⟩,
    ⟨(some 6), .move (.tmp 1), none⟩,
    ⟨(some 7), .binOp .gtr 3 (.tmp 5) (.tmp 6) 3, none⟩] [0, 1, 7])
  (.cond (.tmp 7) (.seq (.reg [⟨(some 8), .move (.tmp 0), none⟩,
    ⟨(some 4), .assign (.tmp 8), none⟩] [4])
  .ret)
  .skip))
  (.seq (.reg [⟨(some 9), .move (.tmp 1), none⟩,
    ⟨(some 4), .assign (.tmp 9), none⟩] [4])
  .ret)))
theorem spec_l1Most_k : fnOk Try.prog (fun _ => false) 47 = some (spec_l1Most_c.strip, 10, [.tmp 4]) := by kernel_rfl
/-- loop.example/g01062/impl.isPrinting: number 48, params [0] -/
def impl_isPrinting_c : ACode := (.seq (.reg [⟨(some 1), .box 35 (.tmp 0), none⟩,
    ⟨(some 2), .assign (.const (.bool false)), none⟩] [1])
  (.seq (.reg [⟨(some 3), .fieldAddr 35 (.tmp 1) 0, none⟩,
    ⟨(some 4), .load 3 (.tmp 3), none⟩,
    ⟨(some 5), .call ⟨.value (.func 49), #[(.tmp 4), (.const (.int .i64 1)), (.const (.int .i64 99))], #[3, 3, 3]⟩, none⟩,
    ⟨(some 6), .move (.tmp 5), none⟩,
    ⟨(some 7), .fieldAddr 35 (.tmp 1) 1, (some (some 6, true))⟩,
    ⟨(some 8), .load 3 (.tmp 7), (some (some 6, true))⟩,
    ⟨(some 9), .call ⟨.value (.func 27), #[(.tmp 8)], #[3]⟩, (some (some 6, true))⟩,
    ⟨(some 10), .pick (.tmp 6) (.tmp 9) (.const (.bool false)), none⟩,
    ⟨(some 11), .move (.tmp 10), none⟩,
    ⟨(some 12), .fieldAddr 35 (.tmp 1) 2, (some (some 11, true))⟩,
    ⟨(some 13), .load 3 (.tmp 12), (some (some 11, true))⟩,
    ⟨(some 14), .call ⟨.value (.func 49), #[(.tmp 13), (.const (.int .i64 1)), (.const (.int .i64 9999))], #[3, 3, 3]⟩, (some (some 11, true))⟩,
    ⟨(some 15), .pick (.tmp 11) (.tmp 14) (.const (.bool false)), none⟩,
    ⟨(some 16), .move (.tmp 15), none⟩,
    ⟨(some 17), .fieldAddr 35 (.tmp 1) 3, (some (some 16, true))⟩,
    ⟨(some 18), .load 3 (.tmp 17), (some (some 16, true))⟩,
    ⟨(some 19), .call ⟨.value (.func 49), #[(.tmp 18), (.const (.int .i64 0)), (.const (.int .i64 100))], #[3, 3, 3]⟩, (some (some 16, true))⟩,
    ⟨(some 20), .pick (.tmp 16) (.tmp 19) (.const (.bool false)), none⟩,
    ⟨(some 21), .move (.tmp 20), none⟩,
    ⟨(some 22), .fieldAddr 35 (.tmp 1) 4, (some (some 21, true))⟩,
    ⟨(some 23), .load 3 (.tmp 22), (some (some 21, true))⟩,
    ⟨(some 24), .call ⟨.value (.func 49), #[(.tmp 23), (.const (.int .i64 0)), (.const (.int .i64 20))], #[3, 3, 3]⟩, (some (some 21, true))⟩,
    ⟨(some 25), .pick (.tmp 21) (.tmp 24) (.const (.bool false)), none⟩,
    ⟨(some 2), .assign (.tmp 25), none⟩] [2])
  .ret))
theorem impl_isPrinting_k : fnOk Try.prog (fun _ => false) 48 = some (impl_isPrinting_c.strip, 26, [.tmp 2]) := by kernel_rfl
/-- loop.example/g01062/impl.inRange: number 49, params [0, 1, 2] -/
def impl_inRange_c : ACode := (.seq (.reg [⟨(some 6), .assign (.const (.bool false)), none⟩] [0, 1, 2])
  (.seq (.reg [⟨(some 7), .move (.tmp 0), none⟩,
    ⟨(some 8), .move (.tmp 1), none⟩,
    ⟨(some 9), .binOp .geq 3 (.tmp 7) (.tmp 8) 3, none⟩,
    ⟨(some 10), .move (.tmp 9), none⟩,
    ⟨(some 11), .move (.tmp 0), (some (some 10, true))⟩,
    ⟨(some 12), .move (.tmp 2), (some (some 10, true))⟩,
    ⟨(some 13), .binOp .leq 3 (.tmp 11) (.tmp 12) 3, (some (some 10, true))⟩,
    ⟨(some 14), .pick (.tmp 10) (.tmp 13) (.const (.bool false)), none⟩,
    ⟨(some 6), .assign (.tmp 14), none⟩] [6])
  .ret))
theorem impl_inRange_k : fnOk Try.prog (fun _ => false) 49 = some (impl_inRange_c.strip, 15, [.tmp 6]) := by kernel_rfl
/-- loop.example/g01062/spec.l14One: number 50, params [0] -/
def spec_l14One_c : ACode := (.seq (.reg [⟨(some 1), .box 35 (.tmp 0), none⟩,
    ⟨(some 2), .assign (.const (.bool false)), none⟩] [1])
  (.seq (.reg [⟨(some 3), .fieldAddr 35 (.tmp 1) 0, none⟩,
    ⟨(some 4), .load 3 (.tmp 3), none⟩,
    ⟨(some 5), .call ⟨.value (.func 51), #[(.tmp 4), (.const (.int .i64 1)), (.const (.int .i64 99))], #[3, 3, 3]⟩, none⟩,
    ⟨(some 6), .move (.tmp 5), none⟩,
    ⟨(some 7), .fieldAddr 35 (.tmp 1) 1, (some (some 6, true))⟩,
    ⟨(some 8), .load 3 (.tmp 7), (some (some 6, true))⟩,
    ⟨(some 9), .call ⟨.value (.func 31), #[(.tmp 8)], #[3]⟩, (some (some 6, true))⟩,
    ⟨(some 10), .pick (.tmp 6) (.tmp 9) (.const (.bool false)), none⟩,
    ⟨(some 11), .move (.tmp 10), none⟩,
    ⟨(some 12), .fieldAddr 35 (.tmp 1) 2, (some (some 11, true))⟩,
    ⟨(some 13), .load 3 (.tmp 12), (some (some 11, true))⟩,
    ⟨(some 14), .call ⟨.value (.func 51), #[(.tmp 13), (.const (.int .i64 1)), (.const (.int .i64 9999))], #[3, 3, 3]⟩, (some (some 11, true))⟩,
    ⟨(some 15), .pick (.tmp 11) (.tmp 14) (.const (.bool false)), none⟩,
    ⟨(some 16), .move (.tmp 15), none⟩,
    ⟨(some 17), .fieldAddr 35 (.tmp 1) 3, (some (some 16, true))⟩,
    ⟨(some 18), .load 3 (.tmp 17), (some (some 16, true))⟩,
    ⟨(some 19), .call ⟨.value (.func 51), #[(.tmp 18), (.const (.int .i64 0)), (.const (.int .i64 100))], #[3, 3, 3]⟩, (some (some 16, true))⟩,
    ⟨(some 20), .pick (.tmp 16) (.tmp 19) (.const (.bool false)), none⟩,
    ⟨(some 21), .move (.tmp 20), none⟩,
    ⟨(some 22), .fieldAddr 35 (.tmp 1) 4, (some (some 21, true))⟩,
    ⟨(some 23), .load 3 (.tmp 22), (some (some 21, true))⟩,
    ⟨(some 24), .call ⟨.value (.func 51), #[(.tmp 23), (.const (.int .i64 0)), (.const (.int .i64 20))], #[3, 3, 3]⟩, (some (some 21, true))⟩,
    ⟨(some 25), .pick (.tmp 21) (.tmp 24) (.const (.bool false)), none⟩,
    ⟨(some 2), .assign (.tmp 25), none⟩] [2])
  .ret))
theorem spec_l14One_k : fnOk Try.prog (fun _ => false) 50 = some (spec_l14One_c.strip, 26, [.tmp 2]) := by kernel_rfl
/-- loop.example/g01062/spec.l1In: number 51, params [0, 1, 2] -/
def spec_l1In_c : ACode := (.seq (.reg [⟨(some 6), .assign (.const (.bool false)), none⟩] [0, 1, 2])
  (.seq (.reg [⟨(some 7), .move (.tmp 0), none⟩,
    ⟨(some 8), .move (.tmp 1), none⟩,
    ⟨(some 9), .binOp .geq 3 (.tmp 7) (.tmp 8) 3, none⟩,
    ⟨(some 10), .move (.tmp 9), none⟩,
    ⟨(some 11), .move (.tmp 0), (some (some 10, true))⟩,
    ⟨(some 12), .move (.tmp 2), (some (some 10, true))⟩,
    ⟨(some 13), .binOp .leq 3 (.tmp 11) (.tmp 12) 3, (some (some 10, true))⟩,
    ⟨(some 14), .pick (.tmp 10) (.tmp 13) (.const (.bool false)), none⟩,
    ⟨(some 6), .assign (.tmp 14), none⟩] [6])
  .ret))
theorem spec_l1In_k : fnOk Try.prog (fun _ => false) 51 = some (spec_l1In_c.strip, 15, [.tmp 6]) := by kernel_rfl
/-- head: [0, 1, 7, 8] -/
def slices_IndexFunc___impl_Printing_impl_Printing__l0 : ACode := (.seq (.reg [⟨(some 9), .binOp .lss 3 (.tmp 8) (.tmp 7) 3, none⟩] [0, 1, 7, 8, 9])
  (.seq (.cond (.tmp 9) .skip
  (.exit 0))
  (.seq (.block 1 (.seq (.reg [⟨(some 10), .move (.tmp 8), none⟩,
    ⟨(some 5), .assign (.tmp 10), none⟩] [0, 1, 5, 7, 8])
  (.seq (.reg [⟨(some 11), .move (.tmp 1), none⟩,
    ⟨(some 12), .move (.tmp 0), none⟩,
    ⟨(some 13), .move (.tmp 5), none⟩,
    ⟨(some 14), .indexAddr 24 (.tmp 12) (.tmp 13), none⟩,
    ⟨(some 15), .load 35 (.tmp 14), none⟩,
    ⟨(some 16), .call ⟨.value (.tmp 11), #[(.tmp 15)], #[35]⟩, none⟩] [0, 1, 5, 7, 8, 16])
  (.cond (.tmp 16) (.seq (.reg [⟨(some 17), .move (.tmp 5), none⟩,
    ⟨(some 4), .assign (.tmp 17), none⟩] [4])
  .ret)
  .skip))))
  (.reg [⟨(some 18), .binOp .add 3 (.tmp 8) (.const (.int .i64 1)) 3, none⟩,
    ⟨(some 8), .move (.tmp 18), none⟩] [0, 1, 7, 8]))))
/-- slices.IndexFunc[[]loop.example/g01062/impl.Printing,loop.example/g01062/impl.Printing]: number 52, params [0, 1] -/
def slices_IndexFunc___impl_Printing_impl_Printing__c : ACode := (.seq (.reg [⟨(some 4), .assign (.const (.int .i64 0)), none⟩] [0, 1])
  (.seq (.seq (.reg [⟨(some 6), .move (.tmp 0), none⟩,
    ⟨(some 7), .call ⟨.builtin .len, #[(.tmp 6)], #[24]⟩, none⟩,
    ⟨(some 8), .move (.const (.int .i64 0)), none⟩] [0, 1, 7, 8])
  (.block 0 (.loop slices_IndexFunc___impl_Printing_impl_Printing__l0)))
  (.seq (.reg [⟨(some 4), .assign (.const (.int .i64 (-1))), none⟩] [4])
  .ret)))
theorem slices_IndexFunc___impl_Printing_impl_Printing__k : fnOk Try.prog (fun _ => false) 52 = some (slices_IndexFunc___impl_Printing_impl_Printing__c.strip, 19, [.tmp 4]) := by kernel_rfl
/-- loop.example/g01062/impl.printingAt$1: number 53, params [0] -/
def impl_printingAt_1_c : ACode := (.seq (.reg [⟨(some 2), .box 35 (.tmp 0), none⟩,
    ⟨(some 3), .assign (.const (.bool false)), none⟩] [1, 2])
  (.seq (.reg [⟨(some 4), .fieldAddr 35 (.tmp 2) 0, none⟩,
    ⟨(some 5), .load 3 (.tmp 4), none⟩,
    ⟨(some 6), .load 3 (.tmp 1), none⟩,
    ⟨(some 7), .binOp .eql 3 (.tmp 5) (.tmp 6) 3, none⟩,
    ⟨(some 3), .assign (.tmp 7), none⟩] [3])
  .ret))
theorem impl_printingAt_1_k : fnOk Try.prog (fun _ => false) 53 = some (impl_printingAt_1_c.strip, 8, [.tmp 3]) := by kernel_rfl
/-- head: [0, 1] -/
def impl_gcd_l0 : ACode := (.seq (.seq (.reg [⟨(some 5), .move (.tmp 1), none⟩,
    ⟨(some 6), .binOp .neq 3 (.tmp 5) (.const (.int .i64 0)) 3, none⟩] [0, 1, 6])
  (.cond (.tmp 6) .skip
  (.exit 0)))
  (.block 1 (.regQ [⟨(some 7), .move (.tmp 1), none⟩,
    ⟨(some 8), .move (.tmp 0), none⟩,
    ⟨(some 9), .move (.tmp 1), none⟩,
    ⟨(some 10), .binOp .rem 3 (.tmp 8) (.tmp 9) 3, none⟩,
    ⟨(some 0), .assign (.tmp 7), none⟩,
    ⟨(some 1), .assign (.tmp 10), none⟩] [0, 1])))
/-- loop.example/g01062/impl.gcd: number 54, params [0, 1] -/
def impl_gcd_c : ACode := (.seq (.reg [⟨(some 4), .assign (.const (.int .i64 0)), none⟩] [0, 1])
  (.seq (.block 0 (.loop impl_gcd_l0))
  (.seq (.reg [⟨(some 11), .move (.tmp 0), none⟩,
    ⟨(some 4), .assign (.tmp 11), none⟩] [4])
  .ret)))
theorem impl_gcd_k : fnOk Try.prog (fun _ => false) 54 = some (impl_gcd_c.strip, 12, [.tmp 4]) := by kernel_rfl
end Go.Proofs.Ytegmlgikdniohaa
