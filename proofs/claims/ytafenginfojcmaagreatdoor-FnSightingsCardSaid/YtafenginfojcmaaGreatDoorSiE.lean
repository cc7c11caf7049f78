/- Printed by a program of ours: the functions' abstract code and facts on their types. -/
import Derived.Test.YtafenginfojcmaaGreatDoorSiC
set_option maxRecDepth 8000
namespace Go.Proofs.YtafenginfojcmaaGreatDoor
open Go Go.RowKit
@[simp] theorem dk_65 : dK Tryz.prog 65 = some (.int .u64) := by kernel_rfl
@[simp] theorem ty_65 : tyK Tryz.prog 65 = some .cell := by kernel_rfl
@[simp] theorem zero_65 : zeroK Tryz.prog 65 = some [.int .u64 0] := by kernel_rfl
@[simp] theorem ty_67 : tyK Tryz.prog 67 = some (.obj 3) := by kernel_rfl
@[simp] theorem fld_67_0 : fldK Tryz.prog 67 0 = some 0 := by kernel_rfl
@[simp] theorem fld_67_1 : fldK Tryz.prog 67 1 = some 1 := by kernel_rfl
@[simp] theorem fld_67_2 : fldK Tryz.prog 67 2 = some 2 := by kernel_rfl
@[simp] theorem pl_67 : plK Tryz.prog 67 = some (some [(0, 1), (1, 1), (2, 1)]) := by kernel_rfl
@[simp] theorem zero_67 : zeroK Tryz.prog 67 = some [.nils, .int .i64 0, .int .u64 0] := by kernel_rfl
@[simp] theorem sl_90 : slK Tryz.prog 90 = some (9, 1, 16) := by kernel_rfl
@[simp] theorem dk_90 : dK Tryz.prog 90 = some .slc := by kernel_rfl
@[simp] theorem ty_90 : tyK Tryz.prog 90 = some .cell := by kernel_rfl
@[simp] theorem zero_90 : zeroK Tryz.prog 90 = some [.nils] := by kernel_rfl
/-- head: [0, 3, 6, 7, 12, 13] -/
def laws_FnSightings_l0 : ACode := (.seq (.seq (.reg [⟨(some 102), .move (.tmp 13), none⟩,
    ⟨(some 103), .move (.tmp 3), none⟩,
    ⟨(some 104), .call ⟨.builtin .len, #[(.tmp 103)], #[24]⟩, none⟩,
    ⟨(some 105), .binOp .lss 3 (.tmp 102) (.tmp 104) 3, none⟩] [0, 3, 6, 7, 12, 13, 105])
  (.cond (.tmp 105) .skip
  (.exit 2)))
  (.seq (.block 3 (.seq (.regF []
    [109, 110, 111, 112, 113, 114, 115, 116, 117, 118, 119, 108, 121, 122] [] [] []
    [⟨(some 109), .move (.tmp 3), none⟩,
    ⟨(some 110), .move (.tmp 3), none⟩,
    ⟨(some 111), .move (.tmp 12), none⟩,
    ⟨(some 112), .indexAddr 24 (.tmp 110) (.tmp 111), none⟩,
    ⟨(some 113), .fieldAddr 32 (.tmp 112) 0, none⟩,
    ⟨(some 114), .load 3 (.tmp 113), none⟩,
    ⟨(some 115), .move (.tmp 3), none⟩,
    ⟨(some 116), .move (.tmp 13), none⟩,
    ⟨(some 117), .indexAddr 24 (.tmp 115) (.tmp 116), none⟩,
    ⟨(some 118), .fieldAddr 32 (.tmp 117) 0, none⟩,
    ⟨(some 119), .load 3 (.tmp 118), none⟩,
    ⟨(some 120), .call ⟨.value (.func 8), #[(.tmp 109), (.tmp 114), (.tmp 119)], #[24, 3, 3]⟩, none⟩,
    ⟨(some 108), .move (.tmp 120), none⟩,
    ⟨(some 121), .extract (.tmp 108) 0, none⟩,
    ⟨(some 14), .assign (.tmp 121), none⟩,
    ⟨(some 122), .extract (.tmp 108) 1, none⟩,
    ⟨(some 15), .assign (.tmp 122), none⟩] [0, 3, 6, 7, 12, 13, 14, 15])
  (.seq (.reg [⟨(some 123), .move (.tmp 15), none⟩,
    ⟨(some 124), .unOp .not 4 (.tmp 123), none⟩,
    ⟨(some 125), .move (.tmp 124), none⟩,
    ⟨(some 126), .move (.tmp 14), (some (some 125, false))⟩,
    ⟨(some 127), .move (.tmp 6), (some (some 125, false))⟩,
    ⟨(some 128), .binOp .gtr 3 (.tmp 126) (.tmp 127) 3, (some (some 125, false))⟩,
    ⟨(some 129), .pick (.tmp 125) (.const (.bool true)) (.tmp 128), none⟩] [0, 3, 6, 7, 12, 13, 129])
  (.cond (.tmp 129) (.seq (.reg [⟨(some 2), .assign (.const (.bool false)), none⟩] [2])
  .ret)
  .skip))))
  (.reg [⟨(some 106), .move (.tmp 13), none⟩,
    ⟨(some 107), .binOp .add 3 (.tmp 106) (.const (.int .i64 1)) 3, none⟩,
    ⟨(some 13), .assign (.tmp 107), none⟩] [0, 3, 6, 7, 12, 13])))
/-- head: [0, 3, 6, 7, 12] -/
def laws_FnSightings_l1 : ACode := (.seq (.seq (.reg [⟨(some 91), .move (.tmp 12), none⟩,
    ⟨(some 92), .move (.tmp 3), none⟩,
    ⟨(some 93), .call ⟨.builtin .len, #[(.tmp 92)], #[24]⟩, none⟩,
    ⟨(some 94), .binOp .lss 3 (.tmp 91) (.tmp 93) 3, none⟩,
    ⟨(some 95), .move (.tmp 94), none⟩,
    ⟨(some 96), .move (.tmp 7), (some (some 95, true))⟩,
    ⟨(some 97), .pick (.tmp 95) (.tmp 96) (.const (.bool false)), none⟩] [0, 3, 6, 7, 12, 97])
  (.cond (.tmp 97) .skip
  (.exit 0)))
  (.seq (.block 1 (.seq (.reg [⟨(some 100), .move (.tmp 12), none⟩,
    ⟨(some 101), .binOp .add 3 (.tmp 100) (.const (.int .i64 1)) 3, none⟩,
    ⟨(some 13), .assign (.tmp 101), none⟩] [0, 3, 6, 7, 12, 13])
  (.block 2 (.loop laws_FnSightings_l0))))
  (.reg [⟨(some 98), .move (.tmp 12), none⟩,
    ⟨(some 99), .binOp .add 3 (.tmp 98) (.const (.int .i64 1)) 3, none⟩,
    ⟨(some 12), .assign (.tmp 99), none⟩] [0, 3, 6, 7, 12])))
/-- head: [0, 16, 17, 18, 22] -/
def laws_FnSightings_l2 : ACode := (.seq (.seq (.reg [⟨(some 156), .move (.tmp 22), none⟩,
    ⟨(some 157), .move (.tmp 18), none⟩,
    ⟨(some 158), .call ⟨.builtin .len, #[(.tmp 157)], #[35]⟩, none⟩,
    ⟨(some 159), .binOp .lss 3 (.tmp 156) (.tmp 158) 3, none⟩] [0, 16, 17, 18, 22, 159])
  (.cond (.tmp 159) .skip
  (.exit 4)))
  (.seq (.block 5 (.seq (.seq (.reg [⟨(some 162), .move (.tmp 18), none⟩,
    ⟨(some 163), .move (.tmp 22), none⟩,
    ⟨(some 164), .indexAddr 35 (.tmp 162) (.tmp 163), none⟩,
    ⟨(some 165), .load 30 (.tmp 164), none⟩,
    ⟨(some 166), .call ⟨.builtin .len, #[(.tmp 165)], #[30]⟩, none⟩,
    ⟨(some 167), .binOp .neq 3 (.tmp 166) (.const (.int .i64 2)) 3, none⟩] [0, 16, 17, 18, 22, 167])
  (.cond (.tmp 167) (.seq (.reg [⟨(some 2), .assign (.const (.bool false)), none⟩] [2])
  .ret)
  .skip))
  (.seq (.regF []
    [169, 170, 171, 172, 173, 174, 175, 176, 177, 178, 179, 180, 181, 168, 183, 184] [] [] []
    [⟨(some 169), .move (.tmp 16), none⟩,
    ⟨(some 170), .move (.tmp 18), none⟩,
    ⟨(some 171), .move (.tmp 22), none⟩,
    ⟨(some 172), .indexAddr 35 (.tmp 170) (.tmp 171), none⟩,
    ⟨(some 173), .load 30 (.tmp 172), none⟩,
    ⟨(some 174), .indexAddr 30 (.tmp 173) (.const (.int .i64 0)), none⟩,
    ⟨(some 175), .load 3 (.tmp 174), none⟩,
    ⟨(some 176), .move (.tmp 18), none⟩,
    ⟨(some 177), .move (.tmp 22), none⟩,
    ⟨(some 178), .indexAddr 35 (.tmp 176) (.tmp 177), none⟩,
    ⟨(some 179), .load 30 (.tmp 178), none⟩,
    ⟨(some 180), .indexAddr 30 (.tmp 179) (.const (.int .i64 1)), none⟩,
    ⟨(some 181), .load 3 (.tmp 180), none⟩,
    ⟨(some 182), .call ⟨.value (.func 8), #[(.tmp 169), (.tmp 175), (.tmp 181)], #[24, 3, 3]⟩, none⟩,
    ⟨(some 168), .move (.tmp 182), none⟩,
    ⟨(some 183), .extract (.tmp 168) 0, none⟩,
    ⟨(some 23), .assign (.tmp 183), none⟩,
    ⟨(some 184), .extract (.tmp 168) 1, none⟩,
    ⟨(some 24), .assign (.tmp 184), none⟩] [0, 16, 17, 18, 22, 23, 24])
  (.seq (.reg [⟨(some 185), .move (.tmp 24), none⟩,
    ⟨(some 186), .unOp .not 4 (.tmp 185), none⟩,
    ⟨(some 187), .move (.tmp 186), none⟩,
    ⟨(some 188), .move (.tmp 23), (some (some 187, false))⟩,
    ⟨(some 189), .move (.tmp 17), (some (some 187, false))⟩,
    ⟨(some 190), .binOp .geq 3 (.tmp 188) (.tmp 189) 3, (some (some 187, false))⟩,
    ⟨(some 191), .pick (.tmp 187) (.const (.bool true)) (.tmp 190), none⟩] [0, 16, 17, 18, 22, 191])
  (.cond (.tmp 191) (.seq (.reg [⟨(some 2), .assign (.const (.bool false)), none⟩] [2])
  .ret)
  .skip)))))
  (.reg [⟨(some 160), .move (.tmp 22), none⟩,
    ⟨(some 161), .binOp .add 3 (.tmp 160) (.const (.int .i64 1)) 3, none⟩,
    ⟨(some 22), .assign (.tmp 161), none⟩] [0, 16, 17, 18, 22])))
/-- head: [0, 25, 27, 28, 29, 32, 33, 38, 39] -/
def laws_FnSightings_l3 : ACode := (.seq (.seq (.reg [⟨(some 287), .move (.tmp 39), none⟩,
    ⟨(some 288), .move (.tmp 25), none⟩,
    ⟨(some 289), .move (.tmp 38), none⟩,
    ⟨(some 290), .indexAddr 24 (.tmp 288) (.tmp 289), none⟩,
    ⟨(some 291), .fieldAddr 32 (.tmp 290) 3, none⟩,
    ⟨(some 292), .load 30 (.tmp 291), none⟩,
    ⟨(some 293), .call ⟨.builtin .len, #[(.tmp 292)], #[30]⟩, none⟩,
    ⟨(some 294), .binOp .lss 3 (.tmp 287) (.tmp 293) 3, none⟩] [0, 25, 27, 28, 29, 32, 33, 38, 39, 294])
  (.cond (.tmp 294) .skip
  (.exit 8)))
  (.seq (.block 9 (.seq (.reg [⟨(some 297), .move (.tmp 28), none⟩,
    ⟨(some 298), .move (.tmp 25), none⟩,
    ⟨(some 299), .move (.tmp 38), none⟩,
    ⟨(some 300), .indexAddr 24 (.tmp 298) (.tmp 299), none⟩,
    ⟨(some 301), .fieldAddr 32 (.tmp 300) 3, none⟩,
    ⟨(some 302), .load 30 (.tmp 301), none⟩,
    ⟨(some 303), .move (.tmp 39), none⟩,
    ⟨(some 304), .indexAddr 30 (.tmp 302) (.tmp 303), none⟩,
    ⟨(some 305), .load 3 (.tmp 304), none⟩,
    ⟨(some 306), .call ⟨.value (.func 19), #[(.tmp 297), (.tmp 305)], #[30, 3]⟩, none⟩,
    ⟨(some 307), .unOp .not 4 (.tmp 306), none⟩] [0, 25, 27, 28, 29, 32, 33, 38, 39, 307])
  (.cond (.tmp 307) (.seq (.reg [⟨(some 2), .assign (.const (.bool false)), none⟩] [2])
  .ret)
  .skip)))
  (.reg [⟨(some 295), .move (.tmp 39), none⟩,
    ⟨(some 296), .binOp .add 3 (.tmp 295) (.const (.int .i64 1)) 3, none⟩,
    ⟨(some 39), .assign (.tmp 296), none⟩] [0, 25, 27, 28, 29, 32, 33, 38, 39])))
/-- head: [0, 25, 27, 28, 29, 32, 33, 38] -/
def laws_FnSightings_l4 : ACode := (.seq (.seq (.reg [⟨(some 255), .move (.tmp 38), none⟩,
    ⟨(some 256), .move (.tmp 25), none⟩,
    ⟨(some 257), .call ⟨.builtin .len, #[(.tmp 256)], #[24]⟩, none⟩,
    ⟨(some 258), .binOp .lss 3 (.tmp 255) (.tmp 257) 3, none⟩,
    ⟨(some 259), .move (.tmp 258), none⟩,
    ⟨(some 260), .move (.tmp 29), (some (some 259, true))⟩,
    ⟨(some 261), .pick (.tmp 259) (.tmp 260) (.const (.bool false)), none⟩] [0, 25, 27, 28, 29, 32, 33, 38, 261])
  (.cond (.tmp 261) .skip
  (.exit 6)))
  (.seq (.block 7 (.seq (.seq (.reg [⟨(some 264), .move (.tmp 25), none⟩,
    ⟨(some 265), .move (.tmp 38), none⟩,
    ⟨(some 266), .indexAddr 24 (.tmp 264) (.tmp 265), none⟩,
    ⟨(some 267), .fieldAddr 32 (.tmp 266) 0, none⟩,
    ⟨(some 268), .load 3 (.tmp 267), none⟩,
    ⟨(some 269), .move (.tmp 27), none⟩,
    ⟨(some 270), .binOp .neq 3 (.tmp 268) (.tmp 269) 3, none⟩] [0, 25, 27, 28, 29, 32, 33, 38, 270])
  (.cond (.tmp 270) (.exit 7)
  .skip))
  (.seq (.seq (.reg [⟨(some 271), .move (.tmp 25), none⟩,
    ⟨(some 272), .move (.tmp 38), none⟩,
    ⟨(some 273), .indexAddr 24 (.tmp 271) (.tmp 272), none⟩,
    ⟨(some 274), .fieldAddr 32 (.tmp 273) 1, none⟩,
    ⟨(some 275), .load 3 (.tmp 274), none⟩,
    ⟨(some 276), .move (.tmp 32), none⟩,
    ⟨(some 277), .binOp .lss 3 (.tmp 275) (.tmp 276) 3, none⟩,
    ⟨(some 278), .move (.tmp 277), none⟩,
    ⟨(some 279), .move (.tmp 25), (some (some 278, false))⟩,
    ⟨(some 280), .move (.tmp 38), (some (some 278, false))⟩,
    ⟨(some 281), .indexAddr 24 (.tmp 279) (.tmp 280), (some (some 278, false))⟩,
    ⟨(some 282), .fieldAddr 32 (.tmp 281) 1, (some (some 278, false))⟩,
    ⟨(some 283), .load 3 (.tmp 282), (some (some 278, false))⟩,
    ⟨(some 284), .move (.tmp 33), (some (some 278, false))⟩,
    ⟨(some 285), .binOp .gtr 3 (.tmp 283) (.tmp 284) 3, (some (some 278, false))⟩,
    ⟨(some 286), .pick (.tmp 278) (.const (.bool true)) (.tmp 285), none⟩] [0, 25, 27, 28, 29, 32, 33, 38, 286])
  (.cond (.tmp 286) (.seq (.reg [⟨(some 2), .assign (.const (.bool false)), none⟩] [2])
  .ret)
  .skip))
  (.seq (.reg [⟨(some 39), .assign (.const (.int .i64 0)), none⟩] [0, 25, 27, 28, 29, 32, 33, 38, 39])
  (.block 8 (.loop laws_FnSightings_l3))))))
  (.reg [⟨(some 262), .move (.tmp 38), none⟩,
    ⟨(some 263), .binOp .add 3 (.tmp 262) (.const (.int .i64 1)) 3, none⟩,
    ⟨(some 38), .assign (.tmp 263), none⟩] [0, 25, 27, 28, 29, 32, 33, 38])))
/-- slots: [44, 45, 46, 47, 48, 49, 51, 52, 53, 54] -/
def laws_FnSightings_t22 : ACode := (.cut [44, 45, 46, 47, 48, 49, 51, 52, 53, 54] (.seq (.reg [⟨(some 345), .move (.tmp 46), none⟩,
    ⟨(some 346), .move (.tmp 49), none⟩,
    ⟨(some 347), .binOp .eql 4 (.tmp 345) (.tmp 346) 4, none⟩,
    ⟨(some 348), .move (.tmp 347), none⟩,
    ⟨(some 349), .move (.tmp 45), (some (some 348, true))⟩,
    ⟨(some 350), .move (.tmp 48), (some (some 348, true))⟩,
    ⟨(some 351), .binOp .eql 3 (.tmp 349) (.tmp 350) 3, (some (some 348, true))⟩,
    ⟨(some 352), .pick (.tmp 348) (.tmp 351) (.const (.bool false)), none⟩,
    ⟨(some 353), .move (.tmp 352), none⟩,
    ⟨(some 354), .move (.tmp 44), (some (some 353, true))⟩,
    ⟨(some 355), .move (.tmp 47), (some (some 353, true))⟩,
    ⟨(some 356), .call ⟨.value (.func 26), #[(.tmp 354), (.tmp 355)], #[24, 24]⟩, (some (some 353, true))⟩,
    ⟨(some 357), .pick (.tmp 353) (.tmp 356) (.const (.bool false)), none⟩,
    ⟨(some 358), .move (.tmp 357), none⟩,
    ⟨(some 359), .move (.tmp 51), (some (some 358, true))⟩,
    ⟨(some 360), .move (.tmp 53), (some (some 358, true))⟩,
    ⟨(some 361), .binOp .eql 9 (.tmp 359) (.tmp 360) 9, (some (some 358, true))⟩,
    ⟨(some 362), .pick (.tmp 358) (.tmp 361) (.const (.bool false)), none⟩,
    ⟨(some 363), .move (.tmp 362), none⟩,
    ⟨(some 364), .move (.tmp 52), (some (some 363, true))⟩,
    ⟨(some 365), .move (.tmp 54), (some (some 363, true))⟩,
    ⟨(some 366), .binOp .eql 4 (.tmp 364) (.tmp 365) 4, (some (some 363, true))⟩,
    ⟨(some 367), .pick (.tmp 363) (.tmp 366) (.const (.bool false)), none⟩,
    ⟨(some 2), .assign (.tmp 367), none⟩] [2])
  .ret))
/-- slots: [44, 45, 46, 47, 48, 49, 50, 51, 52] -/
def laws_FnSightings_t21 : ACode := (.cut [44, 45, 46, 47, 48, 49, 50, 51, 52] (.seq (.reg [⟨(some 341), .load 32 (.tmp 50), none⟩,
    ⟨(some 342), .call ⟨.value (.func 25), #[(.tmp 341)], #[32]⟩, none⟩,
    ⟨(some 340), .move (.tmp 342), none⟩,
    ⟨(some 343), .extract (.tmp 340) 0, none⟩,
    ⟨(some 344), .extract (.tmp 340) 1, none⟩,
    ⟨(some 53), .assign (.tmp 343), none⟩,
    ⟨(some 54), .assign (.tmp 344), none⟩] [44, 45, 46, 47, 48, 49, 51, 52, 53, 54])
  laws_FnSightings_t22))
/-- slots: [44, 45, 46, 47, 48, 49, 50] -/
def laws_FnSightings_t20 : ACode := (.cut [44, 45, 46, 47, 48, 49, 50] (.seq (.reg [⟨(some 336), .load 32 (.tmp 50), none⟩,
    ⟨(some 337), .call ⟨.value (.func 24), #[(.tmp 336)], #[32]⟩, none⟩,
    ⟨(some 335), .move (.tmp 337), none⟩,
    ⟨(some 338), .extract (.tmp 335) 0, none⟩,
    ⟨(some 339), .extract (.tmp 335) 1, none⟩,
    ⟨(some 51), .assign (.tmp 338), none⟩,
    ⟨(some 52), .assign (.tmp 339), none⟩] [44, 45, 46, 47, 48, 49, 50, 51, 52])
  laws_FnSightings_t21))
/-- slots: [0, 44, 45, 46, 47, 48, 49] -/
def laws_FnSightings_t19 : ACode := (.cut [0, 44, 45, 46, 47, 48, 49] (.seq (.reg [⟨(some 333), .move (.tmp 0), none⟩,
    ⟨(some 334), .call ⟨.value (.func 23), #[(.tmp 333)], #[22]⟩, none⟩,
    ⟨(some 50), .alloc 32, none⟩,
    ⟨none, .store 32 (.tmp 50) (.tmp 334), none⟩] [44, 45, 46, 47, 48, 49, 50])
  laws_FnSightings_t20))
/-- slots: [0, 40, 41, 42, 43, 44, 45, 46] -/
def laws_FnSightings_t18 : ACode := (.cut [0, 40, 41, 42, 43, 44, 45, 46] (.seq (.reg [⟨(some 325), .move (.tmp 40), none⟩,
    ⟨(some 326), .move (.tmp 41), none⟩,
    ⟨(some 327), .move (.tmp 42), none⟩,
    ⟨(some 328), .move (.tmp 43), none⟩,
    ⟨(some 329), .call ⟨.value (.func 22), #[(.tmp 325), (.tmp 326), (.tmp 327), (.tmp 328)], #[24, 3, 9, 30]⟩, none⟩,
    ⟨(some 324), .move (.tmp 329), none⟩,
    ⟨(some 330), .extract (.tmp 324) 0, none⟩,
    ⟨(some 331), .extract (.tmp 324) 1, none⟩,
    ⟨(some 332), .extract (.tmp 324) 2, none⟩,
    ⟨(some 47), .assign (.tmp 330), none⟩,
    ⟨(some 48), .assign (.tmp 331), none⟩,
    ⟨(some 49), .assign (.tmp 332), none⟩] [0, 44, 45, 46, 47, 48, 49])
  laws_FnSightings_t19))
/-- slots: [0, 40, 41, 42, 43] -/
def laws_FnSightings_t17 : ACode := (.cut [0, 40, 41, 42, 43] (.seq (.reg [⟨(some 316), .move (.tmp 40), none⟩,
    ⟨(some 317), .move (.tmp 41), none⟩,
    ⟨(some 318), .move (.tmp 42), none⟩,
    ⟨(some 319), .move (.tmp 43), none⟩,
    ⟨(some 320), .call ⟨.value (.func 21), #[(.tmp 316), (.tmp 317), (.tmp 318), (.tmp 319)], #[24, 3, 9, 30]⟩, none⟩,
    ⟨(some 315), .move (.tmp 320), none⟩,
    ⟨(some 321), .extract (.tmp 315) 0, none⟩,
    ⟨(some 322), .extract (.tmp 315) 1, none⟩,
    ⟨(some 323), .extract (.tmp 315) 2, none⟩,
    ⟨(some 44), .assign (.tmp 321), none⟩,
    ⟨(some 45), .assign (.tmp 322), none⟩,
    ⟨(some 46), .assign (.tmp 323), none⟩] [0, 40, 41, 42, 43, 44, 45, 46])
  laws_FnSightings_t18))
/-- slots: [0] -/
def laws_FnSightings_t16 : ACode := (.cut [0] (.seq (.reg [⟨(some 309), .move (.tmp 0), none⟩,
    ⟨(some 310), .call ⟨.value (.func 20), #[(.tmp 309)], #[22]⟩, none⟩,
    ⟨(some 308), .move (.tmp 310), none⟩,
    ⟨(some 311), .extract (.tmp 308) 0, none⟩,
    ⟨(some 312), .extract (.tmp 308) 1, none⟩,
    ⟨(some 313), .extract (.tmp 308) 2, none⟩,
    ⟨(some 314), .extract (.tmp 308) 3, none⟩,
    ⟨(some 40), .assign (.tmp 311), none⟩,
    ⟨(some 41), .assign (.tmp 312), none⟩,
    ⟨(some 42), .assign (.tmp 313), none⟩,
    ⟨(some 43), .assign (.tmp 314), none⟩] [0, 40, 41, 42, 43])
  laws_FnSightings_t17))
/-- slots: [0, 25, 27, 28, 29, 32, 33] -/
def laws_FnSightings_t15 : ACode := (.cut [0, 25, 27, 28, 29, 32, 33] (.seq (.seq (.reg [⟨(some 38), .assign (.const (.int .i64 0)), none⟩] [0, 25, 27, 28, 29, 32, 33, 38])
  (.block 6 (.loop laws_FnSightings_l4)))
  laws_FnSightings_t16))
/-- slots: [0, 25, 26, 27, 28, 29, 32, 33, 34] -/
def laws_FnSightings_t14 : ACode := (.cut [0, 25, 26, 27, 28, 29, 32, 33, 34] (.seq (.seq (.reg [⟨(some 230), .move (.tmp 25), none⟩,
    ⟨(some 231), .move (.tmp 26), none⟩,
    ⟨(some 232), .move (.tmp 27), none⟩,
    ⟨(some 233), .call ⟨.value (.func 18), #[(.tmp 230), (.tmp 231), (.tmp 232)], #[24, 3, 3]⟩, none⟩,
    ⟨(some 229), .move (.tmp 233), none⟩,
    ⟨(some 234), .extract (.tmp 229) 0, none⟩,
    ⟨(some 235), .extract (.tmp 229) 1, none⟩,
    ⟨(some 236), .extract (.tmp 229) 2, none⟩,
    ⟨(some 35), .assign (.tmp 234), none⟩,
    ⟨(some 36), .assign (.tmp 235), none⟩,
    ⟨(some 37), .assign (.tmp 236), none⟩] [0, 25, 27, 28, 29, 32, 33, 34, 35, 36, 37])
  (.seq (.reg [⟨(some 237), .move (.tmp 32), none⟩,
    ⟨(some 238), .move (.tmp 35), none⟩,
    ⟨(some 239), .binOp .neq 3 (.tmp 237) (.tmp 238) 3, none⟩,
    ⟨(some 240), .move (.tmp 239), none⟩,
    ⟨(some 241), .move (.tmp 33), (some (some 240, false))⟩,
    ⟨(some 242), .move (.tmp 36), (some (some 240, false))⟩,
    ⟨(some 243), .binOp .neq 3 (.tmp 241) (.tmp 242) 3, (some (some 240, false))⟩,
    ⟨(some 244), .pick (.tmp 240) (.const (.bool true)) (.tmp 243), none⟩,
    ⟨(some 245), .move (.tmp 244), none⟩,
    ⟨(some 246), .move (.tmp 34), (some (some 245, false))⟩,
    ⟨(some 247), .move (.tmp 37), (some (some 245, false))⟩,
    ⟨(some 248), .binOp .neq 4 (.tmp 246) (.tmp 247) 4, (some (some 245, false))⟩,
    ⟨(some 249), .pick (.tmp 245) (.const (.bool true)) (.tmp 248), none⟩,
    ⟨(some 250), .move (.tmp 249), none⟩,
    ⟨(some 251), .move (.tmp 34), (some (some 250, false))⟩,
    ⟨(some 252), .move (.tmp 29), (some (some 250, false))⟩,
    ⟨(some 253), .binOp .neq 4 (.tmp 251) (.tmp 252) 4, (some (some 250, false))⟩,
    ⟨(some 254), .pick (.tmp 250) (.const (.bool true)) (.tmp 253), none⟩] [0, 25, 27, 28, 29, 32, 33, 254])
  (.cond (.tmp 254) (.seq (.reg [⟨(some 2), .assign (.const (.bool false)), none⟩] [2])
  .ret)
  .skip)))
  laws_FnSightings_t15))
/-- slots: [0, 25, 26, 27, 28, 29] -/
def laws_FnSightings_t13 : ACode := (.cut [0, 25, 26, 27, 28, 29] (.seq (.reg [⟨(some 222), .move (.tmp 25), none⟩,
    ⟨(some 223), .move (.tmp 26), none⟩,
    ⟨(some 224), .move (.tmp 27), none⟩,
    ⟨(some 225), .call ⟨.value (.func 17), #[(.tmp 222), (.tmp 223), (.tmp 224)], #[24, 3, 3]⟩, none⟩,
    ⟨(some 221), .move (.tmp 225), none⟩,
    ⟨(some 226), .extract (.tmp 221) 0, none⟩,
    ⟨(some 227), .extract (.tmp 221) 1, none⟩,
    ⟨(some 228), .extract (.tmp 221) 2, none⟩,
    ⟨(some 32), .assign (.tmp 226), none⟩,
    ⟨(some 33), .assign (.tmp 227), none⟩,
    ⟨(some 34), .assign (.tmp 228), none⟩] [0, 25, 26, 27, 28, 29, 32, 33, 34])
  laws_FnSightings_t14))
/-- slots: [0, 25, 26, 27, 28, 29] -/
def laws_FnSightings_t12 : ACode := (.cut [0, 25, 26, 27, 28, 29] (.seq (.seq (.reg [⟨(some 206), .move (.tmp 25), none⟩,
    ⟨(some 207), .move (.tmp 26), none⟩,
    ⟨(some 208), .move (.tmp 27), none⟩,
    ⟨(some 209), .call ⟨.value (.func 15), #[(.tmp 206), (.tmp 207), (.tmp 208)], #[24, 3, 3]⟩, none⟩,
    ⟨(some 205), .move (.tmp 209), none⟩,
    ⟨(some 210), .extract (.tmp 205) 0, none⟩,
    ⟨(some 211), .extract (.tmp 205) 1, none⟩,
    ⟨(some 30), .assign (.tmp 210), none⟩,
    ⟨(some 31), .assign (.tmp 211), none⟩] [0, 25, 26, 27, 28, 29, 30, 31])
  (.seq (.reg [⟨(some 212), .move (.tmp 29), none⟩,
    ⟨(some 213), .move (.tmp 31), none⟩,
    ⟨(some 214), .binOp .neq 4 (.tmp 212) (.tmp 213) 4, none⟩,
    ⟨(some 215), .move (.tmp 214), none⟩,
    ⟨(some 216), .move (.tmp 28), (some (some 215, false))⟩,
    ⟨(some 217), .move (.tmp 30), (some (some 215, false))⟩,
    ⟨(some 218), .call ⟨.value (.func 16), #[(.tmp 216), (.tmp 217)], #[30, 30]⟩, (some (some 215, false))⟩,
    ⟨(some 219), .unOp .not 4 (.tmp 218), (some (some 215, false))⟩,
    ⟨(some 220), .pick (.tmp 215) (.const (.bool true)) (.tmp 219), none⟩] [0, 25, 26, 27, 28, 29, 220])
  (.cond (.tmp 220) (.seq (.reg [⟨(some 2), .assign (.const (.bool false)), none⟩] [2])
  .ret)
  .skip)))
  laws_FnSightings_t13))
/-- slots: [0, 25, 26, 27] -/
def laws_FnSightings_t11 : ACode := (.cut [0, 25, 26, 27] (.seq (.reg [⟨(some 199), .move (.tmp 25), none⟩,
    ⟨(some 200), .move (.tmp 26), none⟩,
    ⟨(some 201), .move (.tmp 27), none⟩,
    ⟨(some 202), .call ⟨.value (.func 14), #[(.tmp 199), (.tmp 200), (.tmp 201)], #[24, 3, 3]⟩, none⟩,
    ⟨(some 198), .move (.tmp 202), none⟩,
    ⟨(some 203), .extract (.tmp 198) 0, none⟩,
    ⟨(some 204), .extract (.tmp 198) 1, none⟩,
    ⟨(some 28), .assign (.tmp 203), none⟩,
    ⟨(some 29), .assign (.tmp 204), none⟩] [0, 25, 26, 27, 28, 29])
  laws_FnSightings_t12))
/-- slots: [0] -/
def laws_FnSightings_t10 : ACode := (.cut [0] (.seq (.reg [⟨(some 193), .move (.tmp 0), none⟩,
    ⟨(some 194), .call ⟨.value (.func 13), #[(.tmp 193)], #[22]⟩, none⟩,
    ⟨(some 192), .move (.tmp 194), none⟩,
    ⟨(some 195), .extract (.tmp 192) 0, none⟩,
    ⟨(some 196), .extract (.tmp 192) 1, none⟩,
    ⟨(some 197), .extract (.tmp 192) 2, none⟩,
    ⟨(some 25), .assign (.tmp 195), none⟩,
    ⟨(some 26), .assign (.tmp 196), none⟩,
    ⟨(some 27), .assign (.tmp 197), none⟩] [0, 25, 26, 27])
  laws_FnSightings_t11))
/-- slots: [0, 16, 17, 18] -/
def laws_FnSightings_t9 : ACode := (.cut [0, 16, 17, 18] (.seq (.seq (.reg [⟨(some 22), .assign (.const (.int .i64 0)), none⟩] [0, 16, 17, 18, 22])
  (.block 4 (.loop laws_FnSightings_l2)))
  laws_FnSightings_t10))
/-- slots: [0, 16, 17, 18, 19] -/
def laws_FnSightings_t8 : ACode := (.cut [0, 16, 17, 18, 19] (.seq (.seq (.reg [⟨(some 142), .move (.tmp 16), none⟩,
    ⟨(some 143), .move (.tmp 17), none⟩,
    ⟨(some 144), .call ⟨.value (.func 11), #[(.tmp 142), (.tmp 143)], #[24, 3]⟩, none⟩,
    ⟨(some 141), .move (.tmp 144), none⟩,
    ⟨(some 145), .extract (.tmp 141) 0, none⟩,
    ⟨(some 146), .extract (.tmp 141) 1, none⟩,
    ⟨(some 20), .assign (.tmp 145), none⟩,
    ⟨(some 21), .assign (.tmp 146), none⟩] [0, 16, 17, 18, 19, 20, 21])
  (.seq (.reg [⟨(some 147), .move (.tmp 19), none⟩,
    ⟨(some 148), .move (.tmp 21), none⟩,
    ⟨(some 149), .binOp .neq 4 (.tmp 147) (.tmp 148) 4, none⟩,
    ⟨(some 150), .move (.tmp 149), none⟩,
    ⟨(some 151), .move (.tmp 18), (some (some 150, false))⟩,
    ⟨(some 152), .move (.tmp 20), (some (some 150, false))⟩,
    ⟨(some 153), .call ⟨.value (.func 12), #[(.tmp 151), (.tmp 152)], #[35, 35]⟩, (some (some 150, false))⟩,
    ⟨(some 154), .unOp .not 4 (.tmp 153), (some (some 150, false))⟩,
    ⟨(some 155), .pick (.tmp 150) (.const (.bool true)) (.tmp 154), none⟩] [0, 16, 17, 18, 155])
  (.cond (.tmp 155) (.seq (.reg [⟨(some 2), .assign (.const (.bool false)), none⟩] [2])
  .ret)
  .skip)))
  laws_FnSightings_t9))
/-- slots: [0, 16, 17] -/
def laws_FnSightings_t7 : ACode := (.cut [0, 16, 17] (.seq (.reg [⟨(some 136), .move (.tmp 16), none⟩,
    ⟨(some 137), .move (.tmp 17), none⟩,
    ⟨(some 138), .call ⟨.value (.func 10), #[(.tmp 136), (.tmp 137)], #[24, 3]⟩, none⟩,
    ⟨(some 135), .move (.tmp 138), none⟩,
    ⟨(some 139), .extract (.tmp 135) 0, none⟩,
    ⟨(some 140), .extract (.tmp 135) 1, none⟩,
    ⟨(some 18), .assign (.tmp 139), none⟩,
    ⟨(some 19), .assign (.tmp 140), none⟩] [0, 16, 17, 18, 19])
  laws_FnSightings_t8))
/-- slots: [0] -/
def laws_FnSightings_t6 : ACode := (.cut [0] (.seq (.reg [⟨(some 131), .move (.tmp 0), none⟩,
    ⟨(some 132), .call ⟨.value (.func 9), #[(.tmp 131)], #[22]⟩, none⟩,
    ⟨(some 130), .move (.tmp 132), none⟩,
    ⟨(some 133), .extract (.tmp 130) 0, none⟩,
    ⟨(some 134), .extract (.tmp 130) 1, none⟩,
    ⟨(some 16), .assign (.tmp 133), none⟩,
    ⟨(some 17), .assign (.tmp 134), none⟩] [0, 16, 17])
  laws_FnSightings_t7))
/-- slots: [0, 3, 6, 7] -/
def laws_FnSightings_t5 : ACode := (.cut [0, 3, 6, 7] (.seq (.seq (.reg [⟨(some 12), .assign (.const (.int .i64 0)), none⟩] [0, 3, 6, 7, 12])
  (.block 0 (.loop laws_FnSightings_l1)))
  laws_FnSightings_t6))
/-- slots: [0, 3, 4, 5, 6, 7] -/
def laws_FnSightings_t4 : ACode := (.cut [0, 3, 4, 5, 6, 7] (.seq (.seq (.reg [⟨(some 67), .move (.tmp 3), none⟩,
    ⟨(some 68), .call ⟨.value (.func 7), #[(.tmp 67)], #[24]⟩, none⟩,
    ⟨(some 66), .move (.tmp 68), none⟩,
    ⟨(some 69), .extract (.tmp 66) 0, none⟩,
    ⟨(some 70), .extract (.tmp 66) 1, none⟩,
    ⟨(some 71), .extract (.tmp 66) 2, none⟩,
    ⟨(some 72), .extract (.tmp 66) 3, none⟩,
    ⟨(some 8), .assign (.tmp 69), none⟩,
    ⟨(some 9), .assign (.tmp 70), none⟩,
    ⟨(some 10), .assign (.tmp 71), none⟩,
    ⟨(some 11), .assign (.tmp 72), none⟩] [0, 3, 4, 5, 6, 7, 8, 9, 10, 11])
  (.seq (.reg [⟨(some 73), .move (.tmp 4), none⟩,
    ⟨(some 74), .move (.tmp 8), none⟩,
    ⟨(some 75), .binOp .neq 3 (.tmp 73) (.tmp 74) 3, none⟩,
    ⟨(some 76), .move (.tmp 75), none⟩,
    ⟨(some 77), .move (.tmp 5), (some (some 76, false))⟩,
    ⟨(some 78), .move (.tmp 9), (some (some 76, false))⟩,
    ⟨(some 79), .binOp .neq 3 (.tmp 77) (.tmp 78) 3, (some (some 76, false))⟩,
    ⟨(some 80), .pick (.tmp 76) (.const (.bool true)) (.tmp 79), none⟩,
    ⟨(some 81), .move (.tmp 80), none⟩,
    ⟨(some 82), .move (.tmp 6), (some (some 81, false))⟩,
    ⟨(some 83), .move (.tmp 10), (some (some 81, false))⟩,
    ⟨(some 84), .binOp .neq 3 (.tmp 82) (.tmp 83) 3, (some (some 81, false))⟩,
    ⟨(some 85), .pick (.tmp 81) (.const (.bool true)) (.tmp 84), none⟩,
    ⟨(some 86), .move (.tmp 85), none⟩,
    ⟨(some 87), .move (.tmp 7), (some (some 86, false))⟩,
    ⟨(some 88), .move (.tmp 11), (some (some 86, false))⟩,
    ⟨(some 89), .binOp .neq 4 (.tmp 87) (.tmp 88) 4, (some (some 86, false))⟩,
    ⟨(some 90), .pick (.tmp 86) (.const (.bool true)) (.tmp 89), none⟩] [0, 3, 6, 7, 90])
  (.cond (.tmp 90) (.seq (.reg [⟨(some 2), .assign (.const (.bool false)), none⟩] [2])
  .ret)
  .skip)))
  laws_FnSightings_t5))
/-- slots: [0, 3] -/
def laws_FnSightings_t3 : ACode := (.cut [0, 3] (.seq (.reg [⟨(some 60), .move (.tmp 3), none⟩,
    ⟨(some 61), .call ⟨.value (.func 6), #[(.tmp 60)], #[24]⟩, none⟩,
    ⟨(some 59), .move (.tmp 61), none⟩,
    ⟨(some 62), .extract (.tmp 59) 0, none⟩,
    ⟨(some 63), .extract (.tmp 59) 1, none⟩,
    ⟨(some 64), .extract (.tmp 59) 2, none⟩,
    ⟨(some 65), .extract (.tmp 59) 3, none⟩,
    ⟨(some 4), .assign (.tmp 62), none⟩,
    ⟨(some 5), .assign (.tmp 63), none⟩,
    ⟨(some 6), .assign (.tmp 64), none⟩,
    ⟨(some 7), .assign (.tmp 65), none⟩] [0, 3, 4, 5, 6, 7])
  laws_FnSightings_t4))
/-- slots: [0] -/
def laws_FnSightings_t2 : ACode := (.cut [0] (.seq (.reg [⟨(some 57), .move (.tmp 0), none⟩,
    ⟨(some 58), .call ⟨.value (.func 5), #[(.tmp 57)], #[22]⟩, none⟩,
    ⟨(some 3), .assign (.tmp 58), none⟩] [0, 3])
  laws_FnSightings_t3))
/-- slots: [0] -/
def laws_FnSightings_t1 : ACode := (.cut [0] (.seq (.seq (.reg [⟨(some 55), .move (.tmp 0), none⟩,
    ⟨(some 56), .call ⟨.value (.func 4), #[(.tmp 55)], #[22]⟩, none⟩] [0, 56])
  (.cond (.tmp 56) (.seq (.reg [⟨(some 2), .assign (.const (.bool true)), none⟩] [2])
  .ret)
  .skip))
  laws_FnSightings_t2))
/-- loop.example/g01062/laws.FnSightings: number 3, params [0] -/
def laws_FnSightings_c : ACode := (.seq (.reg [⟨(some 2), .assign (.const (.bool false)), none⟩] [0])
  laws_FnSightings_t1)
theorem laws_FnSightings_k : fnOk Tryz.prog (fun i => i == 14 || i == 27) 3 = some (laws_FnSightings_c.strip, 368, [.tmp 2]) := by kernel_rfl
/-- loop.example/g01062/spec.DrawStrongestPair: number 5, params [0] -/
def spec_DrawStrongestPair_c : ACode := (.seq (.reg [⟨(some 2), .assign (.const (.slice none 0 0)), none⟩] [0])
  (.seq (.reg [⟨(some 3), .move (.tmp 0), none⟩,
    ⟨(some 4), .call ⟨.value (.func 27), #[(.tmp 3)], #[22]⟩, none⟩,
    ⟨(some 2), .assign (.tmp 4), none⟩] [2])
  .ret))
theorem spec_DrawStrongestPair_k : fnOk Tryz.prog (fun _ => false) 5 = some (spec_DrawStrongestPair_c.strip, 5, [.tmp 2]) := by kernel_rfl
/-- loop.example/g01062/spec.DrawDoubtfulPairs: number 9, params [0] -/
def spec_DrawDoubtfulPairs_c : ACode := (.seq (.reg [⟨(some 2), .assign (.const (.slice none 0 0)), none⟩,
    ⟨(some 3), .assign (.const (.int .i64 0)), none⟩] [0])
  (.seq (.reg [⟨(some 4), .move (.tmp 0), none⟩,
    ⟨(some 5), .call ⟨.value (.func 33), #[(.tmp 4)], #[22]⟩, none⟩,
    ⟨(some 6), .extract (.tmp 5) 0, none⟩,
    ⟨(some 7), .extract (.tmp 5) 1, none⟩,
    ⟨(some 2), .assign (.tmp 6), none⟩,
    ⟨(some 3), .assign (.tmp 7), none⟩] [2, 3])
  .ret))
theorem spec_DrawDoubtfulPairs_k : fnOk Tryz.prog (fun _ => false) 9 = some (spec_DrawDoubtfulPairs_c.strip, 8, [.tmp 2, .tmp 3]) := by kernel_rfl
/-- loop.example/g01062/spec.DrawTraitsSeen: number 13, params [0] -/
def spec_DrawTraitsSeen_c : ACode := (.seq (.reg [⟨(some 2), .assign (.const (.slice none 0 0)), none⟩,
    ⟨(some 3), .assign (.const (.int .i64 0)), none⟩,
    ⟨(some 4), .assign (.const (.int .i64 0)), none⟩] [0])
  (.seq (.reg [⟨(some 7), .move (.tmp 0), none⟩,
    ⟨(some 8), .build 67 #[(0, (.tmp 7))], none⟩,
    ⟨(some 9), .box 67 (.tmp 8), none⟩,
    ⟨(some 5), .assign (.tmp 9), none⟩] [5])
  (.seq (.reg [⟨(some 10), .move (.tmp 5), none⟩,
    ⟨(some 11), .call ⟨.value (.func 41), #[(.tmp 10)], #[64]⟩, none⟩,
    ⟨(some 6), .assign (.tmp 11), none⟩] [5, 6])
  (.seq (.reg [⟨(some 12), .move (.tmp 6), none⟩,
    ⟨(some 13), .move (.tmp 5), none⟩,
    ⟨(some 14), .call ⟨.value (.func 42), #[(.tmp 13)], #[64]⟩, none⟩,
    ⟨(some 15), .move (.tmp 5), none⟩,
    ⟨(some 16), .move (.tmp 6), none⟩,
    ⟨(some 17), .call ⟨.value (.func 43), #[(.tmp 15), (.tmp 16)], #[64, 24]⟩, none⟩,
    ⟨(some 2), .assign (.tmp 12), none⟩,
    ⟨(some 3), .assign (.tmp 14), none⟩,
    ⟨(some 4), .assign (.tmp 17), none⟩] [2, 3, 4])
  .ret))))
theorem spec_DrawTraitsSeen_k : fnOk Tryz.prog (fun _ => false) 13 = some (spec_DrawTraitsSeen_c.strip, 18, [.tmp 2, .tmp 3, .tmp 4]) := by kernel_rfl
/-- loop.example/g01062/spec.DrawAddSighting: number 20, params [0] -/
def spec_DrawAddSighting_c : ACode := (.seq (.reg [⟨(some 2), .assign (.const (.slice none 0 0)), none⟩,
    ⟨(some 3), .assign (.const (.int .i64 0)), none⟩,
    ⟨(some 4), .assign (.const (.string ⟨#[]⟩)), none⟩,
    ⟨(some 5), .assign (.const (.slice none 0 0)), none⟩] [0])
  (.seq (.reg [⟨(some 9), .move (.tmp 0), none⟩,
    ⟨(some 10), .build 67 #[(0, (.tmp 9))], none⟩,
    ⟨(some 11), .box 67 (.tmp 10), none⟩,
    ⟨(some 6), .assign (.tmp 11), none⟩] [6])
  (.seq (.reg [⟨(some 12), .move (.tmp 6), none⟩,
    ⟨(some 13), .call ⟨.value (.func 41), #[(.tmp 12)], #[64]⟩, none⟩,
    ⟨(some 7), .assign (.tmp 13), none⟩] [6, 7])
  (.seq (.reg [⟨(some 14), .move (.tmp 6), none⟩,
    ⟨(some 15), .call ⟨.value (.func 51), #[(.tmp 14), (.const (.int .i64 1))], #[64, 3]⟩, none⟩,
    ⟨(some 8), .alloc 32, none⟩,
    ⟨none, .store 32 (.tmp 8) (.tmp 15), none⟩] [7, 8])
  (.seq (.regQ [⟨(some 16), .move (.tmp 7), none⟩,
    ⟨(some 17), .fieldAddr 32 (.tmp 8) 1, none⟩,
    ⟨(some 18), .load 3 (.tmp 17), none⟩,
    ⟨(some 19), .fieldAddr 32 (.tmp 8) 2, none⟩,
    ⟨(some 20), .load 9 (.tmp 19), none⟩,
    ⟨(some 21), .fieldAddr 32 (.tmp 8) 3, none⟩,
    ⟨(some 22), .load 30 (.tmp 21), none⟩,
    ⟨(some 2), .assign (.tmp 16), none⟩,
    ⟨(some 3), .assign (.tmp 18), none⟩,
    ⟨(some 4), .assign (.tmp 20), none⟩,
    ⟨(some 5), .assign (.tmp 22), none⟩] [2, 3, 4, 5])
  .ret)))))
theorem spec_DrawAddSighting_k : fnOk Tryz.prog (fun _ => false) 20 = some (spec_DrawAddSighting_c.strip, 23, [.tmp 2, .tmp 3, .tmp 4, .tmp 5]) := by kernel_rfl
/-- loop.example/g01062/spec.DrawSightingText: number 23, params [0] -/
def spec_DrawSightingText_c : ACode := (.seq (.reg [⟨(some 2), .alloc 32, none⟩] [0, 2])
  (.seq (.reg [⟨(some 4), .move (.tmp 0), none⟩,
    ⟨(some 5), .build 67 #[(0, (.tmp 4))], none⟩,
    ⟨(some 6), .box 67 (.tmp 5), none⟩,
    ⟨(some 3), .assign (.tmp 6), none⟩] [2, 3])
  (.seq (.reg [⟨(some 7), .move (.tmp 3), none⟩,
    ⟨(some 8), .move (.tmp 3), none⟩,
    ⟨(some 9), .buildSlice 30 3 #[(0, (.const (.int .i64 1))), (1, (.const (.int .i64 42))), (2, (.const (.int .i64 999)))], none⟩,
    ⟨(some 10), .call ⟨.value (.func 55), #[(.tmp 8), (.tmp 9)], #[64, 30]⟩, none⟩,
    ⟨(some 11), .call ⟨.value (.func 51), #[(.tmp 7), (.tmp 10)], #[64, 3]⟩, none⟩,
    ⟨none, .store 32 (.tmp 2) (.tmp 11), none⟩] [2])
  .ret)))
theorem spec_DrawSightingText_k : fnOk Tryz.prog (fun _ => false) 23 = some (spec_DrawSightingText_c.strip, 12, [.cell 2 32]) := by kernel_rfl
/-- loop.example/g01062/spec.DrawAreSightings: number 27, params [0] -/
def spec_DrawAreSightings_c : ACode := (.seq (.reg [⟨(some 2), .assign (.const (.slice none 0 0)), none⟩] [0])
  (.seq (.reg [⟨(some 4), .move (.tmp 0), none⟩,
    ⟨(some 5), .build 67 #[(0, (.tmp 4))], none⟩,
    ⟨(some 6), .box 67 (.tmp 5), none⟩,
    ⟨(some 3), .assign (.tmp 6), none⟩] [3])
  (.seq (.reg [⟨(some 7), .move (.tmp 3), none⟩,
    ⟨(some 8), .call ⟨.value (.func 41), #[(.tmp 7)], #[64]⟩, none⟩,
    ⟨(some 2), .assign (.tmp 8), none⟩] [2])
  .ret)))
theorem spec_DrawAreSightings_k : fnOk Tryz.prog (fun _ => false) 27 = some (spec_DrawAreSightings_c.strip, 9, [.tmp 2]) := by kernel_rfl
/-- loop.example/g01062/spec.DrawCoversSeen: number 33, params [0] -/
def spec_DrawCoversSeen_c : ACode := (.seq (.reg [⟨(some 2), .assign (.const (.slice none 0 0)), none⟩,
    ⟨(some 3), .assign (.const (.int .i64 0)), none⟩] [0])
  (.seq (.reg [⟨(some 5), .move (.tmp 0), none⟩,
    ⟨(some 6), .build 67 #[(0, (.tmp 5))], none⟩,
    ⟨(some 7), .box 67 (.tmp 6), none⟩,
    ⟨(some 4), .assign (.tmp 7), none⟩] [4])
  (.seq (.reg [⟨(some 8), .move (.tmp 4), none⟩,
    ⟨(some 9), .call ⟨.value (.func 41), #[(.tmp 8)], #[64]⟩, none⟩,
    ⟨(some 10), .move (.tmp 4), none⟩,
    ⟨(some 11), .call ⟨.value (.func 42), #[(.tmp 10)], #[64]⟩, none⟩,
    ⟨(some 2), .assign (.tmp 9), none⟩,
    ⟨(some 3), .assign (.tmp 11), none⟩] [2, 3])
  .ret)))
theorem spec_DrawCoversSeen_k : fnOk Tryz.prog (fun _ => false) 33 = some (spec_DrawCoversSeen_c.strip, 12, [.tmp 2, .tmp 3]) := by kernel_rfl
/-- head: [0, 3, 4, 5] -/
def __spec_l1Cur__sightings13_l0 : ACode := (.seq (.seq (.reg [⟨(some 10), .move (.tmp 5), none⟩,
    ⟨(some 11), .binOp .gtr 3 (.tmp 10) (.const (.int .i64 0)) 3, none⟩] [0, 3, 4, 5, 11])
  (.cond (.tmp 11) .skip
  (.exit 0)))
  (.seq (.block 1 (.seq (.reg [⟨(some 14), .move (.tmp 4), none⟩,
    ⟨(some 15), .binOp .add 3 (.tmp 14) (.const (.int .i64 1)) 3, none⟩,
    ⟨(some 16), .move (.tmp 0), none⟩,
    ⟨(some 17), .call ⟨.value (.func 68), #[(.tmp 16), (.const (.int .i64 3))], #[64, 3]⟩, none⟩,
    ⟨(some 18), .binOp .add 3 (.tmp 15) (.tmp 17) 3, none⟩,
    ⟨(some 19), .move (.tmp 0), none⟩,
    ⟨(some 20), .call ⟨.value (.func 68), #[(.tmp 19), (.const (.int .i64 150))], #[64, 3]⟩, none⟩,
    ⟨(some 21), .binOp .quo 3 (.tmp 20) (.const (.int .i64 149)) 3, none⟩,
    ⟨(some 22), .binOp .sub 3 (.tmp 18) (.tmp 21) 3, none⟩,
    ⟨(some 4), .assign (.tmp 22), none⟩] [0, 3, 4, 5])
  (.reg [⟨(some 23), .move (.tmp 3), none⟩,
    ⟨(some 24), .move (.tmp 0), none⟩,
    ⟨(some 25), .move (.tmp 4), none⟩,
    ⟨(some 26), .call ⟨.value (.func 51), #[(.tmp 24), (.tmp 25)], #[64, 3]⟩, none⟩,
    ⟨(some 27), .buildSlice 24 1 #[(0, (.tmp 26))], none⟩,
    ⟨(some 28), .call ⟨.builtin .append, #[(.tmp 23), (.tmp 27)], #[24, 24]⟩, none⟩,
    ⟨(some 3), .assign (.tmp 28), none⟩] [0, 3, 4, 5])))
  (.reg [⟨(some 12), .move (.tmp 5), none⟩,
    ⟨(some 13), .binOp .sub 3 (.tmp 12) (.const (.int .i64 1)) 3, none⟩,
    ⟨(some 5), .assign (.tmp 13), none⟩] [0, 3, 4, 5])))
/-- head: [0, 3, 6] -/
def __spec_l1Cur__sightings13_l1 : ACode := (.seq (.seq (.reg [⟨(some 32), .move (.tmp 6), none⟩,
    ⟨(some 33), .move (.tmp 0), none⟩,
    ⟨(some 34), .call ⟨.value (.func 68), #[(.tmp 33), (.const (.int .i64 2))], #[64, 3]⟩, none⟩,
    ⟨(some 35), .binOp .add 3 (.const (.int .i64 10)) (.tmp 34) 3, none⟩,
    ⟨(some 36), .binOp .lss 3 (.tmp 32) (.tmp 35) 3, none⟩] [0, 3, 6, 36])
  (.cond (.tmp 36) .skip
  (.exit 2)))
  (.seq (.block 3 (.reg [⟨(some 39), .move (.tmp 3), none⟩,
    ⟨(some 40), .move (.tmp 6), none⟩,
    ⟨(some 41), .binOp .add 3 (.tmp 40) (.const (.int .i64 1)) 3, none⟩,
    ⟨(some 42), .move (.tmp 6), none⟩,
    ⟨(some 43), .binOp .add 3 (.const (.int .i64 1900)) (.tmp 42) 3, none⟩,
    ⟨(some 44), .move (.tmp 6), none⟩,
    ⟨(some 45), .binOp .add 3 (.const (.int .i64 1)) (.tmp 44) 3, none⟩,
    ⟨(some 46), .move (.tmp 6), none⟩,
    ⟨(some 47), .binOp .add 3 (.const (.int .i64 2)) (.tmp 46) 3, none⟩,
    ⟨(some 48), .buildSlice 30 2 #[(0, (.tmp 45)), (1, (.tmp 47))], none⟩,
    ⟨(some 49), .build 32 #[(0, (.tmp 41)), (1, (.tmp 43)), (2, (.const (.string ⟨#[98, 101, 114, 110]⟩))), (3, (.tmp 48))], none⟩,
    ⟨(some 50), .buildSlice 24 1 #[(0, (.tmp 49))], none⟩,
    ⟨(some 51), .call ⟨.builtin .append, #[(.tmp 39), (.tmp 50)], #[24, 24]⟩, none⟩,
    ⟨(some 3), .assign (.tmp 51), none⟩] [0, 3, 6]))
  (.reg [⟨(some 37), .move (.tmp 6), none⟩,
    ⟨(some 38), .binOp .add 3 (.tmp 37) (.const (.int .i64 1)) 3, none⟩,
    ⟨(some 6), .assign (.tmp 38), none⟩] [0, 3, 6])))
/-- (*loop.example/g01062/spec.l1Cur).sightings13: number 41, params [0] -/
def __spec_l1Cur__sightings13_c : ACode := (.seq (.reg [⟨(some 2), .assign (.const (.slice none 0 0)), none⟩] [0])
  (.seq (.reg [⟨(some 7), .buildSlice 24 0 #[], none⟩,
    ⟨(some 3), .assign (.tmp 7), none⟩] [0, 3])
  (.seq (.reg [⟨(some 4), .assign (.const (.int .i64 0)), none⟩] [0, 3, 4])
  (.seq (.seq (.reg [⟨(some 8), .move (.tmp 0), none⟩,
    ⟨(some 9), .call ⟨.value (.func 68), #[(.tmp 8), (.const (.int .i64 8))], #[64, 3]⟩, none⟩,
    ⟨(some 5), .assign (.tmp 9), none⟩] [0, 3, 4, 5])
  (.block 0 (.loop __spec_l1Cur__sightings13_l0)))
  (.seq (.seq (.reg [⟨(some 29), .move (.tmp 0), none⟩,
    ⟨(some 30), .call ⟨.value (.func 69), #[(.tmp 29), (.const (.int .i64 24))], #[64, 3]⟩, none⟩] [0, 3, 30])
  (.cond (.tmp 30) (.seq (.reg [⟨(some 31), .buildSlice 24 0 #[], none⟩,
    ⟨(some 3), .assign (.tmp 31), none⟩] [0, 3])
  (.seq (.reg [⟨(some 6), .assign (.const (.int .i64 0)), none⟩] [0, 3, 6])
  (.block 2 (.loop __spec_l1Cur__sightings13_l1))))
  .skip))
  (.seq (.reg [⟨(some 52), .move (.tmp 3), none⟩,
    ⟨(some 2), .assign (.tmp 52), none⟩] [2])
  .ret))))))
theorem __spec_l1Cur__sightings13_k : fnOk Tryz.prog (fun _ => false) 41 = some (__spec_l1Cur__sightings13_c.strip, 53, [.tmp 2]) := by kernel_rfl
/-- (*loop.example/g01062/spec.l1Cur).limit13: number 42, params [0] -/
def __spec_l1Cur__limit13_c : ACode := (.seq (.reg [⟨(some 2), .assign (.const (.int .i64 0)), none⟩] [0])
  (.seq (.reg [⟨(some 3), .move (.tmp 0), none⟩,
    ⟨(some 4), .buildSlice 30 11 #[(0, (.const (.int .i64 (-30)))), (1, (.const (.int .i64 (-12)))), (2, (.const (.int .i64 (-8)))), (3, (.const (.int .i64 (-1)))), (4, (.const (.int .i64 0))), (5, (.const (.int .i64 1))), (6, (.const (.int .i64 2))), (7, (.const (.int .i64 4))), (8, (.const (.int .i64 16))), (9, (.const (.int .i64 (-31)))), (10, (.const (.int .i64 17)))], none⟩,
    ⟨(some 5), .move (.tmp 0), none⟩,
    ⟨(some 6), .call ⟨.value (.func 68), #[(.tmp 5), (.const (.int .i64 24))], #[64, 3]⟩, none⟩,
    ⟨(some 7), .binOp .quo 3 (.tmp 6) (.const (.int .i64 11)) 3, none⟩,
    ⟨(some 8), .binOp .add 3 (.const (.int .i64 9)) (.tmp 7) 3, none⟩,
    ⟨(some 9), .slice 30 (.tmp 4) none (some (.tmp 8)) none, none⟩,
    ⟨(some 10), .call ⟨.value (.func 55), #[(.tmp 3), (.tmp 9)], #[64, 30]⟩, none⟩,
    ⟨(some 2), .assign (.tmp 10), none⟩] [2])
  .ret))
theorem __spec_l1Cur__limit13_k : fnOk Tryz.prog (fun _ => false) 42 = some (__spec_l1Cur__limit13_c.strip, 11, [.tmp 2]) := by kernel_rfl
/-- (*loop.example/g01062/spec.l1Cur).sightingId: number 43, params [0, 1] -/
def __spec_l1Cur__sightingId_c : ACode := (.seq (.reg [⟨(some 4), .assign (.const (.int .i64 0)), none⟩] [0, 1])
  (.seq (.seq (.reg [⟨(some 5), .move (.tmp 1), none⟩,
    ⟨(some 6), .call ⟨.builtin .len, #[(.tmp 5)], #[24]⟩, none⟩,
    ⟨(some 7), .binOp .eql 3 (.tmp 6) (.const (.int .i64 0)) 3, none⟩,
    ⟨(some 8), .move (.tmp 7), none⟩,
    ⟨(some 9), .move (.tmp 0), (some (some 8, false))⟩,
    ⟨(some 10), .call ⟨.value (.func 69), #[(.tmp 9), (.const (.int .i64 10))], #[64, 3]⟩, (some (some 8, false))⟩,
    ⟨(some 11), .pick (.tmp 8) (.const (.bool true)) (.tmp 10), none⟩] [0, 1, 11])
  (.cond (.tmp 11) (.seq (.reg [⟨(some 12), .move (.tmp 0), none⟩,
    ⟨(some 13), .buildSlice 30 3 #[(0, (.const (.int .i64 0))), (1, (.const (.int .i64 1))), (2, (.const (.int .i64 500)))], none⟩,
    ⟨(some 14), .call ⟨.value (.func 55), #[(.tmp 12), (.tmp 13)], #[64, 30]⟩, none⟩,
    ⟨(some 4), .assign (.tmp 14), none⟩] [4])
  .ret)
  .skip))
  (.seq (.reg [⟨(some 15), .move (.tmp 1), none⟩,
    ⟨(some 16), .move (.tmp 0), none⟩,
    ⟨(some 17), .move (.tmp 1), none⟩,
    ⟨(some 18), .call ⟨.builtin .len, #[(.tmp 17)], #[24]⟩, none⟩,
    ⟨(some 19), .call ⟨.value (.func 68), #[(.tmp 16), (.tmp 18)], #[64, 3]⟩, none⟩,
    ⟨(some 20), .indexAddr 24 (.tmp 15) (.tmp 19), none⟩,
    ⟨(some 21), .fieldAddr 32 (.tmp 20) 0, none⟩,
    ⟨(some 22), .load 3 (.tmp 21), none⟩,
    ⟨(some 4), .assign (.tmp 22), none⟩] [4])
  .ret)))
theorem __spec_l1Cur__sightingId_k : fnOk Tryz.prog (fun _ => false) 43 = some (__spec_l1Cur__sightingId_c.strip, 23, [.tmp 4]) := by kernel_rfl
/-- (*loop.example/g01062/spec.l1Cur).sighting13: number 51, params [0, 1] -/
def __spec_l1Cur__sighting13_c : ACode := (.seq (.reg [⟨(some 4), .alloc 32, none⟩] [0, 1, 4])
  (.seq (.reg [⟨(some 6), .move (.tmp 1), none⟩,
    ⟨(some 7), .move (.tmp 0), none⟩,
    ⟨(some 8), .buildSlice 30 4 #[(0, (.const (.int .i64 1840))), (1, (.const (.int .i64 1900))), (2, (.const (.int .i64 1950))), (3, (.const (.int .i64 2100)))], none⟩,
    ⟨(some 9), .call ⟨.value (.func 55), #[(.tmp 7), (.tmp 8)], #[64, 30]⟩, none⟩,
    ⟨(some 10), .move (.tmp 0), none⟩,
    ⟨(some 11), .buildSlice 90 3 #[(0, (.const (.string ⟨#[98, 101, 114, 110]⟩))), (1, (.const (.string ⟨#[98, 101, 114, 110]⟩))), (2, (.const (.string ⟨#[103, 101, 110, 102]⟩)))], none⟩,
    ⟨(some 12), .call ⟨.value (.func 71), #[(.tmp 10), (.tmp 11)], #[64, 90]⟩, none⟩,
    ⟨(some 13), .move (.tmp 0), none⟩,
    ⟨(some 14), .call ⟨.value (.func 72), #[(.tmp 13)], #[64]⟩, none⟩,
    ⟨(some 15), .build 32 #[(0, (.tmp 6)), (1, (.tmp 9)), (2, (.tmp 12)), (3, (.tmp 14))], none⟩,
    ⟨(some 5), .alloc 32, none⟩,
    ⟨none, .store 32 (.tmp 5) (.tmp 15), none⟩] [0, 4, 5])
  (.seq (.seq (.reg [⟨(some 16), .move (.tmp 0), none⟩,
    ⟨(some 17), .call ⟨.value (.func 68), #[(.tmp 16), (.const (.int .i64 100))], #[64, 3]⟩, none⟩] [0, 4, 5, 17])
  (.block 0 (.seq (.reg [⟨(some 19), .binOp .eql 3 (.tmp 17) (.const (.int .i64 0)) 3, none⟩,
    ⟨(some 18), .assign (.tmp 19), none⟩] [0, 4, 5, 17, 18])
  (.cond (.tmp 18) (.reg [⟨(some 20), .move (.tmp 0), none⟩,
    ⟨(some 21), .buildSlice 30 3 #[(0, (.const (.int .i64 0))), (1, (.const (.int .i64 999))), (2, (.const (.int .i64 1000)))], none⟩,
    ⟨(some 22), .call ⟨.value (.func 55), #[(.tmp 20), (.tmp 21)], #[64, 30]⟩, none⟩,
    ⟨(some 23), .fieldAddr 32 (.tmp 5) 0, none⟩,
    ⟨none, .store 3 (.tmp 23) (.tmp 22), none⟩] [4, 5])
  (.seq (.reg [⟨(some 25), .binOp .eql 3 (.tmp 17) (.const (.int .i64 1)) 3, none⟩,
    ⟨(some 24), .assign (.tmp 25), none⟩] [0, 4, 5, 17, 24])
  (.cond (.tmp 24) (.reg [⟨(some 26), .move (.tmp 0), none⟩,
    ⟨(some 27), .buildSlice 30 2 #[(0, (.const (.int .i64 1839))), (1, (.const (.int .i64 2101)))], none⟩,
    ⟨(some 28), .call ⟨.value (.func 55), #[(.tmp 26), (.tmp 27)], #[64, 30]⟩, none⟩,
    ⟨(some 29), .fieldAddr 32 (.tmp 5) 1, none⟩,
    ⟨none, .store 3 (.tmp 29) (.tmp 28), none⟩] [4, 5])
  (.seq (.reg [⟨(some 31), .binOp .eql 3 (.tmp 17) (.const (.int .i64 2)) 3, none⟩,
    ⟨(some 30), .assign (.tmp 31), none⟩] [0, 4, 5, 30])
  (.cond (.tmp 30) (.reg [⟨(some 32), .move (.tmp 0), none⟩,
    ⟨(some 33), .buildSlice 90 2 #[(0, (.const (.string ⟨#[]⟩))), (1, (.const (.string ⟨#[66, 101, 114, 110]⟩)))], none⟩,
    ⟨(some 34), .call ⟨.value (.func 71), #[(.tmp 32), (.tmp 33)], #[64, 90]⟩, none⟩,
    ⟨(some 35), .fieldAddr 32 (.tmp 5) 2, none⟩,
    ⟨none, .store 9 (.tmp 35) (.tmp 34), none⟩] [4, 5])
  .skip))))))))
  (.seq (.reg [⟨(some 36), .load 32 (.tmp 5), none⟩,
    ⟨none, .store 32 (.tmp 4) (.tmp 36), none⟩] [4])
  .ret))))
theorem __spec_l1Cur__sighting13_k : fnOk Tryz.prog (fun _ => false) 51 = some (__spec_l1Cur__sighting13_c.strip, 37, [.cell 4 32]) := by kernel_rfl
/-- (*loop.example/g01062/spec.l1Cur).among: number 55, params [0, 1] -/
def __spec_l1Cur__among_c : ACode := (.seq (.reg [⟨(some 4), .assign (.const (.int .i64 0)), none⟩] [0, 1])
  (.seq (.reg [⟨(some 5), .move (.tmp 1), none⟩,
    ⟨(some 6), .move (.tmp 0), none⟩,
    ⟨(some 7), .move (.tmp 1), none⟩,
    ⟨(some 8), .call ⟨.builtin .len, #[(.tmp 7)], #[30]⟩, none⟩,
    ⟨(some 9), .call ⟨.value (.func 68), #[(.tmp 6), (.tmp 8)], #[64, 3]⟩, none⟩,
    ⟨(some 10), .indexAddr 30 (.tmp 5) (.tmp 9), none⟩,
    ⟨(some 11), .load 3 (.tmp 10), none⟩,
    ⟨(some 4), .assign (.tmp 11), none⟩] [4])
  .ret))
theorem __spec_l1Cur__among_k : fnOk Tryz.prog (fun _ => false) 55 = some (__spec_l1Cur__among_c.strip, 12, [.tmp 4]) := by kernel_rfl
/-- (*loop.example/g01062/spec.l1Cur).pick: number 68, params [0, 1] -/
def __spec_l1Cur__pick_c : ACode := (.seq (.reg [⟨(some 4), .assign (.const (.int .i64 0)), none⟩] [0, 1])
  (.seq (.seq (.reg [⟨(some 6), .move (.tmp 1), none⟩,
    ⟨(some 7), .binOp .leq 3 (.tmp 6) (.const (.int .i64 1)) 3, none⟩] [0, 1, 7])
  (.cond (.tmp 7) (.seq (.reg [⟨(some 4), .assign (.const (.int .i64 0)), none⟩] [4])
  .ret)
  .skip))
  (.seq (.reg [⟨(some 8), .move (.tmp 0), none⟩,
    ⟨(some 9), .call ⟨.value (.func 88), #[(.tmp 8)], #[64]⟩, none⟩,
    ⟨(some 5), .assign (.tmp 9), none⟩] [0, 1, 5])
  (.seq (.seq (.reg [⟨(some 10), .move (.tmp 1), none⟩,
    ⟨(some 11), .binOp .gtr 3 (.tmp 10) (.const (.int .i64 200)) 3, none⟩] [0, 1, 5, 11])
  (.cond (.tmp 11) (.reg [⟨(some 12), .move (.tmp 5), none⟩,
    ⟨(some 13), .binOp .mul 3 (.tmp 12) (.const (.int .i64 256)) 3, none⟩,
    ⟨(some 14), .move (.tmp 0), none⟩,
    ⟨(some 15), .call ⟨.value (.func 88), #[(.tmp 14)], #[64]⟩, none⟩,
    ⟨(some 16), .binOp .add 3 (.tmp 13) (.tmp 15) 3, none⟩,
    ⟨(some 5), .assign (.tmp 16), none⟩] [1, 5])
  .skip))
  (.seq (.reg [⟨(some 17), .move (.tmp 5), none⟩,
    ⟨(some 18), .move (.tmp 1), none⟩,
    ⟨(some 19), .binOp .rem 3 (.tmp 17) (.tmp 18) 3, none⟩,
    ⟨(some 4), .assign (.tmp 19), none⟩] [4])
  .ret)))))
theorem __spec_l1Cur__pick_k : fnOk Tryz.prog (fun _ => false) 68 = some (__spec_l1Cur__pick_c.strip, 20, [.tmp 4]) := by kernel_rfl
/-- (*loop.example/g01062/spec.l1Cur).one: number 69, params [0, 1] -/
def __spec_l1Cur__one_c : ACode := (.seq (.reg [⟨(some 4), .assign (.const (.bool false)), none⟩] [0, 1])
  (.seq (.reg [⟨(some 5), .move (.tmp 0), none⟩,
    ⟨(some 6), .move (.tmp 1), none⟩,
    ⟨(some 7), .call ⟨.value (.func 68), #[(.tmp 5), (.tmp 6)], #[64, 3]⟩, none⟩,
    ⟨(some 8), .binOp .eql 3 (.tmp 7) (.const (.int .i64 0)) 3, none⟩,
    ⟨(some 4), .assign (.tmp 8), none⟩] [4])
  .ret))
theorem __spec_l1Cur__one_k : fnOk Tryz.prog (fun _ => false) 69 = some (__spec_l1Cur__one_c.strip, 9, [.tmp 4]) := by kernel_rfl
/-- (*loop.example/g01062/spec.l1Cur).of: number 71, params [0, 1] -/
def __spec_l1Cur__of_c : ACode := (.seq (.reg [⟨(some 4), .assign (.const (.string ⟨#[]⟩)), none⟩] [0, 1])
  (.seq (.reg [⟨(some 5), .move (.tmp 1), none⟩,
    ⟨(some 6), .move (.tmp 0), none⟩,
    ⟨(some 7), .move (.tmp 1), none⟩,
    ⟨(some 8), .call ⟨.builtin .len, #[(.tmp 7)], #[90]⟩, none⟩,
    ⟨(some 9), .call ⟨.value (.func 68), #[(.tmp 6), (.tmp 8)], #[64, 3]⟩, none⟩,
    ⟨(some 10), .indexAddr 90 (.tmp 5) (.tmp 9), none⟩,
    ⟨(some 11), .load 9 (.tmp 10), none⟩,
    ⟨(some 4), .assign (.tmp 11), none⟩] [4])
  .ret))
theorem __spec_l1Cur__of_k : fnOk Tryz.prog (fun _ => false) 71 = some (__spec_l1Cur__of_c.strip, 12, [.tmp 4]) := by kernel_rfl
/-- head: [0, 3, 4] -/
def __spec_l1Cur__traits13_l0 : ACode := (.seq (.seq (.reg [⟨(some 8), .move (.tmp 4), none⟩,
    ⟨(some 9), .binOp .gtr 3 (.tmp 8) (.const (.int .i64 0)) 3, none⟩] [0, 3, 4, 9])
  (.cond (.tmp 9) .skip
  (.exit 0)))
  (.seq (.block 1 (.reg [⟨(some 12), .move (.tmp 3), none⟩,
    ⟨(some 13), .move (.tmp 0), none⟩,
    ⟨(some 14), .buildSlice 30 6 #[(0, (.const (.int .i64 1))), (1, (.const (.int .i64 2))), (2, (.const (.int .i64 3))), (3, (.const (.int .i64 4))), (4, (.const (.int .i64 5))), (5, (.const (.int .i64 50)))], none⟩,
    ⟨(some 15), .call ⟨.value (.func 55), #[(.tmp 13), (.tmp 14)], #[64, 30]⟩, none⟩,
    ⟨(some 16), .call ⟨.value (.func 48), #[(.tmp 12), (.tmp 15)], #[30, 3]⟩, none⟩,
    ⟨(some 3), .assign (.tmp 16), none⟩] [0, 3, 4]))
  (.reg [⟨(some 10), .move (.tmp 4), none⟩,
    ⟨(some 11), .binOp .sub 3 (.tmp 10) (.const (.int .i64 1)) 3, none⟩,
    ⟨(some 4), .assign (.tmp 11), none⟩] [0, 3, 4])))
/-- (*loop.example/g01062/spec.l1Cur).traits13: number 72, params [0] -/
def __spec_l1Cur__traits13_c : ACode := (.seq (.reg [⟨(some 2), .assign (.const (.slice none 0 0)), none⟩] [0])
  (.seq (.reg [⟨(some 5), .buildSlice 30 0 #[], none⟩,
    ⟨(some 3), .assign (.tmp 5), none⟩] [0, 3])
  (.seq (.seq (.reg [⟨(some 6), .move (.tmp 0), none⟩,
    ⟨(some 7), .call ⟨.value (.func 68), #[(.tmp 6), (.const (.int .i64 5))], #[64, 3]⟩, none⟩,
    ⟨(some 4), .assign (.tmp 7), none⟩] [0, 3, 4])
  (.block 0 (.loop __spec_l1Cur__traits13_l0)))
  (.seq (.seq (.reg [⟨(some 17), .move (.tmp 0), none⟩,
    ⟨(some 18), .call ⟨.value (.func 69), #[(.tmp 17), (.const (.int .i64 60))], #[64, 3]⟩, none⟩] [0, 3, 18])
  (.cond (.tmp 18) (.reg [⟨(some 19), .move (.tmp 3), none⟩,
    ⟨(some 20), .move (.tmp 0), none⟩,
    ⟨(some 21), .buildSlice 30 3 #[(0, (.const (.int .i64 0))), (1, (.const (.int .i64 51))), (2, (.const (.int .i64 1)))], none⟩,
    ⟨(some 22), .call ⟨.value (.func 55), #[(.tmp 20), (.tmp 21)], #[64, 30]⟩, none⟩,
    ⟨(some 23), .buildSlice 30 1 #[(0, (.tmp 22))], none⟩,
    ⟨(some 24), .call ⟨.builtin .append, #[(.tmp 19), (.tmp 23)], #[30, 30]⟩, none⟩,
    ⟨(some 3), .assign (.tmp 24), none⟩] [0, 3])
  .skip))
  (.seq (.seq (.reg [⟨(some 25), .move (.tmp 0), none⟩,
    ⟨(some 26), .call ⟨.value (.func 69), #[(.tmp 25), (.const (.int .i64 40))], #[64, 3]⟩, none⟩] [0, 3, 26])
  (.cond (.tmp 26) (.reg [⟨(some 27), .buildSlice 30 9 #[(0, (.const (.int .i64 1))), (1, (.const (.int .i64 2))), (2, (.const (.int .i64 3))), (3, (.const (.int .i64 4))), (4, (.const (.int .i64 5))), (5, (.const (.int .i64 6))), (6, (.const (.int .i64 7))), (7, (.const (.int .i64 8))), (8, (.const (.int .i64 9)))], none⟩,
    ⟨(some 28), .move (.tmp 0), none⟩,
    ⟨(some 29), .call ⟨.value (.func 68), #[(.tmp 28), (.const (.int .i64 2))], #[64, 3]⟩, none⟩,
    ⟨(some 30), .binOp .add 3 (.const (.int .i64 8)) (.tmp 29) 3, none⟩,
    ⟨(some 31), .slice 30 (.tmp 27) none (some (.tmp 30)) none, none⟩,
    ⟨(some 3), .assign (.tmp 31), none⟩] [3])
  .skip))
  (.seq (.reg [⟨(some 32), .move (.tmp 3), none⟩,
    ⟨(some 2), .assign (.tmp 32), none⟩] [2])
  .ret))))))
theorem __spec_l1Cur__traits13_k : fnOk Tryz.prog (fun _ => false) 72 = some (__spec_l1Cur__traits13_c.strip, 33, [.tmp 2]) := by kernel_rfl
/-- (*loop.example/g01062/spec.l1Cur).next: number 88, params [0] -/
def __spec_l1Cur__next_c : ACode := (.seq (.reg [⟨(some 2), .assign (.const (.int .i64 0)), none⟩] [0])
  (.seq (.reg [⟨(some 3), .assign (.const (.int .i64 0)), none⟩] [0, 3])
  (.seq (.seq (.regQ [⟨(some 4), .move (.tmp 0), none⟩,
    ⟨(some 5), .nilCheck (.tmp 4), none⟩,
    ⟨(some 6), .fieldAddr 67 (.tmp 5) 1, none⟩,
    ⟨(some 7), .load 3 (.tmp 6), none⟩,
    ⟨(some 8), .move (.tmp 0), none⟩,
    ⟨(some 9), .nilCheck (.tmp 8), none⟩,
    ⟨(some 10), .fieldAddr 67 (.tmp 9) 0, none⟩,
    ⟨(some 11), .load 22 (.tmp 10), none⟩,
    ⟨(some 12), .call ⟨.builtin .len, #[(.tmp 11)], #[22]⟩, none⟩,
    ⟨(some 13), .binOp .lss 3 (.tmp 7) (.tmp 12) 3, none⟩] [0, 3, 13])
  (.cond (.tmp 13) (.regQ [⟨(some 14), .move (.tmp 0), none⟩,
    ⟨(some 15), .nilCheck (.tmp 14), none⟩,
    ⟨(some 16), .fieldAddr 67 (.tmp 15) 0, none⟩,
    ⟨(some 17), .load 22 (.tmp 16), none⟩,
    ⟨(some 18), .move (.tmp 0), none⟩,
    ⟨(some 19), .nilCheck (.tmp 18), none⟩,
    ⟨(some 20), .fieldAddr 67 (.tmp 19) 1, none⟩,
    ⟨(some 21), .load 3 (.tmp 20), none⟩,
    ⟨(some 22), .indexAddr 22 (.tmp 17) (.tmp 21), none⟩,
    ⟨(some 23), .load 5 (.tmp 22), none⟩,
    ⟨(some 24), .convert 5 3 (.tmp 23), none⟩,
    ⟨(some 3), .assign (.tmp 24), none⟩] [0, 3])
  .skip))
  (.seq (.reg [⟨(some 25), .move (.tmp 0), none⟩,
    ⟨(some 26), .nilCheck (.tmp 25), none⟩,
    ⟨(some 27), .fieldAddr 67 (.tmp 26) 1, none⟩,
    ⟨(some 28), .load 3 (.tmp 27), none⟩,
    ⟨(some 29), .binOp .add 3 (.tmp 28) (.const (.int .i64 1)) 3, none⟩,
    ⟨(some 30), .nilCheck (.tmp 25), none⟩,
    ⟨(some 31), .fieldAddr 67 (.tmp 30) 1, none⟩,
    ⟨none, .store 3 (.tmp 31) (.tmp 29), none⟩] [0, 3])
  (.seq (.reg [⟨(some 32), .move (.tmp 0), none⟩,
    ⟨(some 33), .move (.tmp 0), none⟩,
    ⟨(some 34), .nilCheck (.tmp 33), none⟩,
    ⟨(some 35), .fieldAddr 67 (.tmp 34) 2, none⟩,
    ⟨(some 36), .load 65 (.tmp 35), none⟩,
    ⟨(some 37), .binOp .mul 65 (.tmp 36) (.const (.int .u64 6364136223846793005)) 65, none⟩,
    ⟨(some 38), .move (.tmp 3), none⟩,
    ⟨(some 39), .convert 3 65 (.tmp 38), none⟩,
    ⟨(some 40), .binOp .add 65 (.tmp 37) (.tmp 39) 65, none⟩,
    ⟨(some 41), .binOp .add 65 (.tmp 40) (.const (.int .u64 381907)) 65, none⟩,
    ⟨(some 42), .nilCheck (.tmp 32), none⟩,
    ⟨(some 43), .fieldAddr 67 (.tmp 42) 2, none⟩,
    ⟨none, .store 65 (.tmp 43) (.tmp 41), none⟩] [0, 3])
  (.seq (.seq (.regQ [⟨(some 44), .move (.tmp 0), none⟩,
    ⟨(some 45), .nilCheck (.tmp 44), none⟩,
    ⟨(some 46), .fieldAddr 67 (.tmp 45) 1, none⟩,
    ⟨(some 47), .load 3 (.tmp 46), none⟩,
    ⟨(some 48), .move (.tmp 0), none⟩,
    ⟨(some 49), .nilCheck (.tmp 48), none⟩,
    ⟨(some 50), .fieldAddr 67 (.tmp 49) 0, none⟩,
    ⟨(some 51), .load 22 (.tmp 50), none⟩,
    ⟨(some 52), .call ⟨.builtin .len, #[(.tmp 51)], #[22]⟩, none⟩,
    ⟨(some 53), .binOp .leq 3 (.tmp 47) (.tmp 52) 3, none⟩] [0, 3, 53])
  (.cond (.tmp 53) (.seq (.reg [⟨(some 54), .move (.tmp 3), none⟩,
    ⟨(some 2), .assign (.tmp 54), none⟩] [2])
  .ret)
  .skip))
  (.seq (.reg [⟨(some 55), .move (.tmp 0), none⟩,
    ⟨(some 56), .nilCheck (.tmp 55), none⟩,
    ⟨(some 57), .fieldAddr 67 (.tmp 56) 2, none⟩,
    ⟨(some 58), .load 65 (.tmp 57), none⟩,
    ⟨(some 59), .binOp .shr 65 (.tmp 58) (.const (.int .u64 40)) 86, none⟩,
    ⟨(some 60), .binOp .and 65 (.tmp 59) (.const (.int .u64 255)) 65, none⟩,
    ⟨(some 61), .convert 65 3 (.tmp 60), none⟩,
    ⟨(some 2), .assign (.tmp 61), none⟩] [2])
  .ret)))))))
theorem __spec_l1Cur__next_k : fnOk Tryz.prog (fun _ => false) 88 = some (__spec_l1Cur__next_c.strip, 62, [.tmp 2]) := by kernel_rfl
end Go.Proofs.YtafenginfojcmaaGreatDoor

