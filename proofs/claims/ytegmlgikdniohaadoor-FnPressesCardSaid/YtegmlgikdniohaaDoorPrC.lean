/- Printed by a program of ours: the functions' abstract code and facts on their types. -/
import Derived.Test.YtegmlgikdniohaaDoorAbsP
import Derived.Test.YtegmlgikdniohaaDoorProg
import Derived.KernelRfl
set_option maxRecDepth 8000
namespace Go.Proofs.YtegmlgikdniohaaDoor
open Go Go.RowKit
@[simp] theorem dk_3 : dK Tryd.prog 3 = some (.int .i64) := by kernel_rfl
@[simp] theorem ty_3 : tyK Tryd.prog 3 = some .cell := by kernel_rfl
@[simp] theorem zero_3 : zeroK Tryd.prog 3 = some [.int .i64 0] := by kernel_rfl
@[simp] theorem dk_4 : dK Tryd.prog 4 = some .bool := by kernel_rfl
@[simp] theorem ty_4 : tyK Tryd.prog 4 = some .cell := by kernel_rfl
@[simp] theorem zero_4 : zeroK Tryd.prog 4 = some [.bool false] := by kernel_rfl
@[simp] theorem dk_5 : dK Tryd.prog 5 = some (.int .u8) := by kernel_rfl
@[simp] theorem ty_5 : tyK Tryd.prog 5 = some .cell := by kernel_rfl
@[simp] theorem zero_5 : zeroK Tryd.prog 5 = some [.int .u8 0] := by kernel_rfl
@[simp] theorem dk_9 : dK Tryd.prog 9 = some .str := by kernel_rfl
@[simp] theorem ty_9 : tyK Tryd.prog 9 = some .cell := by kernel_rfl
@[simp] theorem zero_9 : zeroK Tryd.prog 9 = some [.str []] := by kernel_rfl
@[simp] theorem sl_22 : slK Tryd.prog 22 = some (5, 1, 1) := by kernel_rfl
@[simp] theorem dk_22 : dK Tryd.prog 22 = some (.bytes 5) := by kernel_rfl
@[simp] theorem ty_22 : tyK Tryd.prog 22 = some .cell := by kernel_rfl
@[simp] theorem zero_22 : zeroK Tryd.prog 22 = some [.nils] := by kernel_rfl
@[simp] theorem sl_24 : slK Tryd.prog 24 = some (34, 5, 40) := by kernel_rfl
@[simp] theorem dk_24 : dK Tryd.prog 24 = some .slc := by kernel_rfl
@[simp] theorem ty_24 : tyK Tryd.prog 24 = some .cell := by kernel_rfl
@[simp] theorem zero_24 : zeroK Tryd.prog 24 = some [.nils] := by kernel_rfl
@[simp] theorem ty_34 : tyK Tryd.prog 34 = some (.obj 5) := by kernel_rfl
@[simp] theorem fld_34_0 : fldK Tryd.prog 34 0 = some 0 := by kernel_rfl
@[simp] theorem fld_34_1 : fldK Tryd.prog 34 1 = some 1 := by kernel_rfl
@[simp] theorem fld_34_2 : fldK Tryd.prog 34 2 = some 2 := by kernel_rfl
@[simp] theorem fld_34_3 : fldK Tryd.prog 34 3 = some 3 := by kernel_rfl
@[simp] theorem fld_34_4 : fldK Tryd.prog 34 4 = some 4 := by kernel_rfl
@[simp] theorem eqk_34 : eqKs Tryd.prog 34 = some [0, 0, 0, 0, 0] := by kernel_rfl
@[simp] theorem pl_34 : plK Tryd.prog 34 = some (some [(0, 1), (1, 1), (2, 1), (3, 1), (4, 1)]) := by kernel_rfl
@[simp] theorem zero_34 : zeroK Tryd.prog 34 = some [.int .i64 0, .int .i64 0, .int .i64 0, .int .i64 0, .int .i64 0] := by kernel_rfl
@[simp] theorem sl_37 : slK Tryd.prog 37 = some (3, 1, 8) := by kernel_rfl
@[simp] theorem dk_37 : dK Tryd.prog 37 = some .slc := by kernel_rfl
@[simp] theorem ty_37 : tyK Tryd.prog 37 = some .cell := by kernel_rfl
@[simp] theorem zero_37 : zeroK Tryd.prog 37 = some [.nils] := by kernel_rfl
/-- head: [0, 3, 18, 19, 22, 23] -/
def laws_FnPresses_l0 : ACode := (.seq (.seq (.reg [⟨(some 142), .move (.tmp 23), none⟩,
    ⟨(some 143), .move (.tmp 3), none⟩,
    ⟨(some 144), .call ⟨.builtin .len, #[(.tmp 143)], #[24]⟩, none⟩,
    ⟨(some 145), .binOp .lss 3 (.tmp 142) (.tmp 144) 3, none⟩,
    ⟨(some 146), .move (.tmp 145), none⟩,
    ⟨(some 147), .move (.tmp 19), (some (some 146, true))⟩,
    ⟨(some 148), .pick (.tmp 146) (.tmp 147) (.const (.bool false)), none⟩] [0, 3, 18, 19, 22, 23, 148])
  (.cond (.tmp 148) .skip
  (.exit 0)))
  (.seq (.block 1 (.seq (.reg [⟨(some 151), .move (.tmp 3), none⟩,
    ⟨(some 152), .move (.tmp 23), none⟩,
    ⟨(some 153), .indexAddr 24 (.tmp 151) (.tmp 152), none⟩,
    ⟨(some 154), .fieldAddr 34 (.tmp 153) 0, none⟩,
    ⟨(some 155), .load 3 (.tmp 154), none⟩,
    ⟨(some 156), .move (.tmp 18), none⟩,
    ⟨(some 157), .binOp .eql 3 (.tmp 155) (.tmp 156) 3, none⟩] [0, 3, 18, 19, 22, 23, 157])
  (.cond (.tmp 157) (.reg [⟨(some 158), .move (.tmp 3), none⟩,
    ⟨(some 159), .move (.tmp 23), none⟩,
    ⟨(some 160), .indexAddr 24 (.tmp 158) (.tmp 159), none⟩,
    ⟨(some 161), .fieldAddr 34 (.tmp 160) 2, none⟩,
    ⟨(some 162), .load 3 (.tmp 161), none⟩,
    ⟨(some 22), .assign (.tmp 162), none⟩] [0, 3, 18, 19, 22, 23])
  .skip)))
  (.reg [⟨(some 149), .move (.tmp 23), none⟩,
    ⟨(some 150), .binOp .add 3 (.tmp 149) (.const (.int .i64 1)) 3, none⟩,
    ⟨(some 23), .assign (.tmp 150), none⟩] [0, 3, 18, 19, 22, 23])))
/-- head: [0, 3, 19, 22, 24] -/
def laws_FnPresses_l1 : ACode := (.seq (.seq (.reg [⟨(some 163), .move (.tmp 24), none⟩,
    ⟨(some 164), .move (.tmp 3), none⟩,
    ⟨(some 165), .call ⟨.builtin .len, #[(.tmp 164)], #[24]⟩, none⟩,
    ⟨(some 166), .binOp .lss 3 (.tmp 163) (.tmp 165) 3, none⟩,
    ⟨(some 167), .move (.tmp 166), none⟩,
    ⟨(some 168), .move (.tmp 19), (some (some 167, true))⟩,
    ⟨(some 169), .pick (.tmp 167) (.tmp 168) (.const (.bool false)), none⟩] [0, 3, 19, 22, 24, 169])
  (.cond (.tmp 169) .skip
  (.exit 2)))
  (.seq (.block 3 (.seq (.reg [⟨(some 172), .move (.tmp 3), none⟩,
    ⟨(some 173), .move (.tmp 24), none⟩,
    ⟨(some 174), .indexAddr 24 (.tmp 172) (.tmp 173), none⟩,
    ⟨(some 175), .fieldAddr 34 (.tmp 174) 2, none⟩,
    ⟨(some 176), .load 3 (.tmp 175), none⟩,
    ⟨(some 177), .move (.tmp 22), none⟩,
    ⟨(some 178), .binOp .lss 3 (.tmp 176) (.tmp 177) 3, none⟩] [0, 3, 19, 22, 24, 178])
  (.cond (.tmp 178) (.seq (.reg [⟨(some 2), .assign (.const (.bool false)), none⟩] [2])
  .ret)
  .skip)))
  (.reg [⟨(some 170), .move (.tmp 24), none⟩,
    ⟨(some 171), .binOp .add 3 (.tmp 170) (.const (.int .i64 1)) 3, none⟩,
    ⟨(some 24), .assign (.tmp 171), none⟩] [0, 3, 19, 22, 24])))
/-- head: [0, 3, 25, 26, 27, 31] -/
def laws_FnPresses_l2 : ACode := (.seq (.seq (.reg [⟨(some 205), .move (.tmp 31), none⟩,
    ⟨(some 206), .move (.tmp 27), none⟩,
    ⟨(some 207), .call ⟨.builtin .len, #[(.tmp 206)], #[37]⟩, none⟩,
    ⟨(some 208), .binOp .lss 3 (.tmp 205) (.tmp 207) 3, none⟩] [0, 3, 25, 26, 27, 31, 208])
  (.cond (.tmp 208) .skip
  (.exit 4)))
  (.seq (.block 5 (.seq (.reg [⟨(some 212), .move (.tmp 25), none⟩,
    ⟨(some 213), .move (.tmp 27), none⟩,
    ⟨(some 214), .move (.tmp 31), none⟩,
    ⟨(some 215), .indexAddr 37 (.tmp 213) (.tmp 214), none⟩,
    ⟨(some 216), .load 3 (.tmp 215), none⟩,
    ⟨(some 217), .call ⟨.value (.func 16), #[(.tmp 212), (.const (.int .i64 4000)), (.tmp 216)], #[24, 3, 3]⟩, none⟩,
    ⟨(some 211), .move (.tmp 217), none⟩,
    ⟨(some 218), .extract (.tmp 211) 0, none⟩,
    ⟨(some 219), .extract (.tmp 211) 1, none⟩,
    ⟨(some 32), .assign (.tmp 218), none⟩,
    ⟨(some 33), .assign (.tmp 219), none⟩] [0, 3, 25, 26, 27, 31, 32, 33])
  (.seq (.reg [⟨(some 220), .move (.tmp 33), none⟩,
    ⟨(some 221), .unOp .not 4 (.tmp 220), none⟩,
    ⟨(some 222), .move (.tmp 221), none⟩,
    ⟨(some 223), .move (.tmp 32), (some (some 222, false))⟩,
    ⟨(some 224), .move (.tmp 26), (some (some 222, false))⟩,
    ⟨(some 225), .buildSlice 37 1 #[(0, (.tmp 224))], (some (some 222, false))⟩,
    ⟨(some 226), .call ⟨.value (.func 15), #[(.tmp 223), (.tmp 225)], #[37, 37]⟩, (some (some 222, false))⟩,
    ⟨(some 227), .unOp .not 4 (.tmp 226), (some (some 222, false))⟩,
    ⟨(some 228), .pick (.tmp 222) (.const (.bool true)) (.tmp 227), none⟩] [0, 3, 25, 26, 27, 31, 228])
  (.cond (.tmp 228) (.seq (.reg [⟨(some 2), .assign (.const (.bool false)), none⟩] [2])
  .ret)
  .skip))))
  (.reg [⟨(some 209), .move (.tmp 31), none⟩,
    ⟨(some 210), .binOp .add 3 (.tmp 209) (.const (.int .i64 1)) 3, none⟩,
    ⟨(some 31), .assign (.tmp 210), none⟩] [0, 3, 25, 26, 27, 31])))
/-- head: [0, 3, 34, 35, 36, 37, 38, 41, 42] -/
def laws_FnPresses_l3 : ACode := (.seq (.seq (.reg [⟨(some 257), .move (.tmp 42), none⟩,
    ⟨(some 258), .move (.tmp 34), none⟩,
    ⟨(some 259), .call ⟨.builtin .len, #[(.tmp 258)], #[24]⟩, none⟩,
    ⟨(some 260), .binOp .lss 3 (.tmp 257) (.tmp 259) 3, none⟩,
    ⟨(some 261), .move (.tmp 260), none⟩,
    ⟨(some 262), .move (.tmp 38), (some (some 261, true))⟩,
    ⟨(some 263), .pick (.tmp 261) (.tmp 262) (.const (.bool false)), none⟩] [0, 3, 34, 35, 36, 37, 38, 41, 42, 263])
  (.cond (.tmp 263) .skip
  (.exit 6)))
  (.seq (.block 7 (.seq (.reg [⟨(some 266), .move (.tmp 34), none⟩,
    ⟨(some 267), .move (.tmp 42), none⟩,
    ⟨(some 268), .indexAddr 24 (.tmp 266) (.tmp 267), none⟩,
    ⟨(some 269), .fieldAddr 34 (.tmp 268) 0, none⟩,
    ⟨(some 270), .load 3 (.tmp 269), none⟩,
    ⟨(some 271), .move (.tmp 37), none⟩,
    ⟨(some 272), .binOp .leq 3 (.tmp 270) (.tmp 271) 3, none⟩] [0, 3, 34, 35, 36, 37, 38, 41, 42, 272])
  (.cond (.tmp 272) (.seq (.seq (.reg [⟨(some 273), .move (.tmp 41), none⟩,
    ⟨(some 274), .move (.tmp 36), none⟩,
    ⟨(some 275), .binOp .geq 3 (.tmp 273) (.tmp 274) 3, none⟩] [0, 3, 34, 35, 36, 37, 38, 41, 42, 275])
  (.cond (.tmp 275) (.seq (.reg [⟨(some 2), .assign (.const (.bool false)), none⟩] [2])
  .ret)
  .skip))
  (.reg [⟨(some 276), .move (.tmp 41), none⟩,
    ⟨(some 277), .move (.tmp 34), none⟩,
    ⟨(some 278), .move (.tmp 42), none⟩,
    ⟨(some 279), .indexAddr 24 (.tmp 277) (.tmp 278), none⟩,
    ⟨(some 280), .fieldAddr 34 (.tmp 279) 2, none⟩,
    ⟨(some 281), .load 3 (.tmp 280), none⟩,
    ⟨(some 282), .move (.tmp 35), none⟩,
    ⟨(some 283), .binOp .mul 3 (.tmp 281) (.tmp 282) 3, none⟩,
    ⟨(some 284), .binOp .add 3 (.tmp 276) (.tmp 283) 3, none⟩,
    ⟨(some 41), .assign (.tmp 284), none⟩] [0, 3, 34, 35, 36, 37, 38, 41, 42]))
  .skip)))
  (.reg [⟨(some 264), .move (.tmp 42), none⟩,
    ⟨(some 265), .binOp .add 3 (.tmp 264) (.const (.int .i64 1)) 3, none⟩,
    ⟨(some 42), .assign (.tmp 265), none⟩] [0, 3, 34, 35, 36, 37, 38, 41, 42])))
/-- slots: [43, 44, 45, 46, 47, 48, 50, 51, 52, 53] -/
def laws_FnPresses_t26 : ACode := (.cut [43, 44, 45, 46, 47, 48, 50, 51, 52, 53] (.seq (.reg [⟨(some 315), .move (.tmp 43), none⟩,
    ⟨(some 316), .move (.tmp 46), none⟩,
    ⟨(some 317), .binOp .eql 3 (.tmp 315) (.tmp 316) 3, none⟩,
    ⟨(some 318), .move (.tmp 317), none⟩,
    ⟨(some 319), .move (.tmp 44), (some (some 318, true))⟩,
    ⟨(some 320), .move (.tmp 47), (some (some 318, true))⟩,
    ⟨(some 321), .binOp .eql 3 (.tmp 319) (.tmp 320) 3, (some (some 318, true))⟩,
    ⟨(some 322), .pick (.tmp 318) (.tmp 321) (.const (.bool false)), none⟩,
    ⟨(some 323), .move (.tmp 322), none⟩,
    ⟨(some 324), .move (.tmp 45), (some (some 323, true))⟩,
    ⟨(some 325), .move (.tmp 48), (some (some 323, true))⟩,
    ⟨(some 326), .binOp .eql 4 (.tmp 324) (.tmp 325) 4, (some (some 323, true))⟩,
    ⟨(some 327), .pick (.tmp 323) (.tmp 326) (.const (.bool false)), none⟩,
    ⟨(some 328), .move (.tmp 327), none⟩,
    ⟨(some 329), .move (.tmp 50), (some (some 328, true))⟩,
    ⟨(some 330), .move (.tmp 52), (some (some 328, true))⟩,
    ⟨(some 331), .binOp .eql 9 (.tmp 329) (.tmp 330) 9, (some (some 328, true))⟩,
    ⟨(some 332), .pick (.tmp 328) (.tmp 331) (.const (.bool false)), none⟩,
    ⟨(some 333), .move (.tmp 332), none⟩,
    ⟨(some 334), .move (.tmp 51), (some (some 333, true))⟩,
    ⟨(some 335), .move (.tmp 53), (some (some 333, true))⟩,
    ⟨(some 336), .binOp .eql 4 (.tmp 334) (.tmp 335) 4, (some (some 333, true))⟩,
    ⟨(some 337), .pick (.tmp 333) (.tmp 336) (.const (.bool false)), none⟩,
    ⟨(some 2), .assign (.tmp 337), none⟩] [2])
  .ret))
/-- slots: [43, 44, 45, 46, 47, 48, 49, 50, 51] -/
def laws_FnPresses_t25 : ACode := (.cut [43, 44, 45, 46, 47, 48, 49, 50, 51] (.seq (.reg [⟨(some 311), .load 34 (.tmp 49), none⟩,
    ⟨(some 312), .call ⟨.value (.func 24), #[(.tmp 311)], #[34]⟩, none⟩,
    ⟨(some 310), .move (.tmp 312), none⟩,
    ⟨(some 313), .extract (.tmp 310) 0, none⟩,
    ⟨(some 314), .extract (.tmp 310) 1, none⟩,
    ⟨(some 52), .assign (.tmp 313), none⟩,
    ⟨(some 53), .assign (.tmp 314), none⟩] [43, 44, 45, 46, 47, 48, 50, 51, 52, 53])
  laws_FnPresses_t26))
/-- slots: [43, 44, 45, 46, 47, 48, 49] -/
def laws_FnPresses_t24 : ACode := (.cut [43, 44, 45, 46, 47, 48, 49] (.seq (.reg [⟨(some 306), .load 34 (.tmp 49), none⟩,
    ⟨(some 307), .call ⟨.value (.func 23), #[(.tmp 306)], #[34]⟩, none⟩,
    ⟨(some 305), .move (.tmp 307), none⟩,
    ⟨(some 308), .extract (.tmp 305) 0, none⟩,
    ⟨(some 309), .extract (.tmp 305) 1, none⟩,
    ⟨(some 50), .assign (.tmp 308), none⟩,
    ⟨(some 51), .assign (.tmp 309), none⟩] [43, 44, 45, 46, 47, 48, 49, 50, 51])
  laws_FnPresses_t25))
/-- slots: [0, 43, 44, 45, 46, 47, 48] -/
def laws_FnPresses_t23 : ACode := (.cut [0, 43, 44, 45, 46, 47, 48] (.seq (.reg [⟨(some 303), .move (.tmp 0), none⟩,
    ⟨(some 304), .call ⟨.value (.func 22), #[(.tmp 303)], #[22]⟩, none⟩,
    ⟨(some 49), .alloc 34, none⟩,
    ⟨none, .store 34 (.tmp 49) (.tmp 304), none⟩] [43, 44, 45, 46, 47, 48, 49])
  laws_FnPresses_t24))
/-- slots: [0, 3, 43, 44, 45] -/
def laws_FnPresses_t22 : ACode := (.cut [0, 3, 43, 44, 45] (.seq (.reg [⟨(some 298), .move (.tmp 3), none⟩,
    ⟨(some 299), .call ⟨.value (.func 21), #[(.tmp 298)], #[24]⟩, none⟩,
    ⟨(some 297), .move (.tmp 299), none⟩,
    ⟨(some 300), .extract (.tmp 297) 0, none⟩,
    ⟨(some 301), .extract (.tmp 297) 1, none⟩,
    ⟨(some 302), .extract (.tmp 297) 2, none⟩,
    ⟨(some 46), .assign (.tmp 300), none⟩,
    ⟨(some 47), .assign (.tmp 301), none⟩,
    ⟨(some 48), .assign (.tmp 302), none⟩] [0, 43, 44, 45, 46, 47, 48])
  laws_FnPresses_t23))
/-- slots: [0, 3] -/
def laws_FnPresses_t21 : ACode := (.cut [0, 3] (.seq (.reg [⟨(some 292), .move (.tmp 3), none⟩,
    ⟨(some 293), .call ⟨.value (.func 20), #[(.tmp 292)], #[24]⟩, none⟩,
    ⟨(some 291), .move (.tmp 293), none⟩,
    ⟨(some 294), .extract (.tmp 291) 0, none⟩,
    ⟨(some 295), .extract (.tmp 291) 1, none⟩,
    ⟨(some 296), .extract (.tmp 291) 2, none⟩,
    ⟨(some 43), .assign (.tmp 294), none⟩,
    ⟨(some 44), .assign (.tmp 295), none⟩,
    ⟨(some 45), .assign (.tmp 296), none⟩] [0, 3, 43, 44, 45])
  laws_FnPresses_t22))
/-- slots: [0, 3, 36, 38, 41] -/
def laws_FnPresses_t20 : ACode := (.cut [0, 3, 36, 38, 41] (.seq (.seq (.reg [⟨(some 285), .move (.tmp 38), none⟩,
    ⟨(some 286), .move (.tmp 285), none⟩,
    ⟨(some 287), .move (.tmp 41), (some (some 286, true))⟩,
    ⟨(some 288), .move (.tmp 36), (some (some 286, true))⟩,
    ⟨(some 289), .binOp .lss 3 (.tmp 287) (.tmp 288) 3, (some (some 286, true))⟩,
    ⟨(some 290), .pick (.tmp 286) (.tmp 289) (.const (.bool false)), none⟩] [0, 3, 290])
  (.cond (.tmp 290) (.seq (.reg [⟨(some 2), .assign (.const (.bool false)), none⟩] [2])
  .ret)
  .skip))
  laws_FnPresses_t21))
/-- slots: [0, 3, 34, 35, 36, 37, 38, 41] -/
def laws_FnPresses_t19 : ACode := (.cut [0, 3, 34, 35, 36, 37, 38, 41] (.seq (.seq (.reg [⟨(some 42), .assign (.const (.int .i64 0)), none⟩] [0, 3, 34, 35, 36, 37, 38, 41, 42])
  (.block 6 (.loop laws_FnPresses_l3)))
  laws_FnPresses_t20))
/-- slots: [0, 3, 34, 35, 36, 37, 38] -/
def laws_FnPresses_t18 : ACode := (.cut [0, 3, 34, 35, 36, 37, 38] (.seq (.reg [⟨(some 41), .assign (.const (.int .i64 0)), none⟩] [0, 3, 34, 35, 36, 37, 38, 41])
  laws_FnPresses_t19))
/-- slots: [0, 3, 34, 35, 36, 37, 38] -/
def laws_FnPresses_t17 : ACode := (.cut [0, 3, 34, 35, 36, 37, 38] (.seq (.seq (.reg [⟨(some 243), .move (.tmp 34), none⟩,
    ⟨(some 244), .move (.tmp 35), none⟩,
    ⟨(some 245), .move (.tmp 36), none⟩,
    ⟨(some 246), .call ⟨.value (.func 19), #[(.tmp 243), (.tmp 244), (.tmp 245)], #[24, 3, 3]⟩, none⟩,
    ⟨(some 242), .move (.tmp 246), none⟩,
    ⟨(some 247), .extract (.tmp 242) 0, none⟩,
    ⟨(some 248), .extract (.tmp 242) 1, none⟩,
    ⟨(some 39), .assign (.tmp 247), none⟩,
    ⟨(some 40), .assign (.tmp 248), none⟩] [0, 3, 34, 35, 36, 37, 38, 39, 40])
  (.seq (.reg [⟨(some 249), .move (.tmp 37), none⟩,
    ⟨(some 250), .move (.tmp 39), none⟩,
    ⟨(some 251), .binOp .neq 3 (.tmp 249) (.tmp 250) 3, none⟩,
    ⟨(some 252), .move (.tmp 251), none⟩,
    ⟨(some 253), .move (.tmp 38), (some (some 252, false))⟩,
    ⟨(some 254), .move (.tmp 40), (some (some 252, false))⟩,
    ⟨(some 255), .binOp .neq 4 (.tmp 253) (.tmp 254) 4, (some (some 252, false))⟩,
    ⟨(some 256), .pick (.tmp 252) (.const (.bool true)) (.tmp 255), none⟩] [0, 3, 34, 35, 36, 37, 38, 256])
  (.cond (.tmp 256) (.seq (.reg [⟨(some 2), .assign (.const (.bool false)), none⟩] [2])
  .ret)
  .skip)))
  laws_FnPresses_t18))
/-- slots: [0, 3, 34, 35, 36] -/
def laws_FnPresses_t16 : ACode := (.cut [0, 3, 34, 35, 36] (.seq (.reg [⟨(some 236), .move (.tmp 34), none⟩,
    ⟨(some 237), .move (.tmp 35), none⟩,
    ⟨(some 238), .move (.tmp 36), none⟩,
    ⟨(some 239), .call ⟨.value (.func 18), #[(.tmp 236), (.tmp 237), (.tmp 238)], #[24, 3, 3]⟩, none⟩,
    ⟨(some 235), .move (.tmp 239), none⟩,
    ⟨(some 240), .extract (.tmp 235) 0, none⟩,
    ⟨(some 241), .extract (.tmp 235) 1, none⟩,
    ⟨(some 37), .assign (.tmp 240), none⟩,
    ⟨(some 38), .assign (.tmp 241), none⟩] [0, 3, 34, 35, 36, 37, 38])
  laws_FnPresses_t17))
/-- slots: [0, 3] -/
def laws_FnPresses_t15 : ACode := (.cut [0, 3] (.seq (.reg [⟨(some 230), .move (.tmp 0), none⟩,
    ⟨(some 231), .call ⟨.value (.func 17), #[(.tmp 230)], #[22]⟩, none⟩,
    ⟨(some 229), .move (.tmp 231), none⟩,
    ⟨(some 232), .extract (.tmp 229) 0, none⟩,
    ⟨(some 233), .extract (.tmp 229) 1, none⟩,
    ⟨(some 234), .extract (.tmp 229) 2, none⟩,
    ⟨(some 34), .assign (.tmp 232), none⟩,
    ⟨(some 35), .assign (.tmp 233), none⟩,
    ⟨(some 36), .assign (.tmp 234), none⟩] [0, 3, 34, 35, 36])
  laws_FnPresses_t16))
/-- slots: [0, 3, 25, 26, 27] -/
def laws_FnPresses_t14 : ACode := (.cut [0, 3, 25, 26, 27] (.seq (.seq (.reg [⟨(some 31), .assign (.const (.int .i64 0)), none⟩] [0, 3, 25, 26, 27, 31])
  (.block 4 (.loop laws_FnPresses_l2)))
  laws_FnPresses_t15))
/-- slots: [0, 3, 25, 26, 27, 28] -/
def laws_FnPresses_t13 : ACode := (.cut [0, 3, 25, 26, 27, 28] (.seq (.seq (.reg [⟨(some 191), .move (.tmp 25), none⟩,
    ⟨(some 192), .move (.tmp 26), none⟩,
    ⟨(some 193), .call ⟨.value (.func 14), #[(.tmp 191), (.tmp 192)], #[24, 3]⟩, none⟩,
    ⟨(some 190), .move (.tmp 193), none⟩,
    ⟨(some 194), .extract (.tmp 190) 0, none⟩,
    ⟨(some 195), .extract (.tmp 190) 1, none⟩,
    ⟨(some 29), .assign (.tmp 194), none⟩,
    ⟨(some 30), .assign (.tmp 195), none⟩] [0, 3, 25, 26, 27, 28, 29, 30])
  (.seq (.reg [⟨(some 196), .move (.tmp 28), none⟩,
    ⟨(some 197), .move (.tmp 30), none⟩,
    ⟨(some 198), .binOp .neq 4 (.tmp 196) (.tmp 197) 4, none⟩,
    ⟨(some 199), .move (.tmp 198), none⟩,
    ⟨(some 200), .move (.tmp 27), (some (some 199, false))⟩,
    ⟨(some 201), .move (.tmp 29), (some (some 199, false))⟩,
    ⟨(some 202), .call ⟨.value (.func 15), #[(.tmp 200), (.tmp 201)], #[37, 37]⟩, (some (some 199, false))⟩,
    ⟨(some 203), .unOp .not 4 (.tmp 202), (some (some 199, false))⟩,
    ⟨(some 204), .pick (.tmp 199) (.const (.bool true)) (.tmp 203), none⟩] [0, 3, 25, 26, 27, 204])
  (.cond (.tmp 204) (.seq (.reg [⟨(some 2), .assign (.const (.bool false)), none⟩] [2])
  .ret)
  .skip)))
  laws_FnPresses_t14))
/-- slots: [0, 3, 25, 26] -/
def laws_FnPresses_t12 : ACode := (.cut [0, 3, 25, 26] (.seq (.reg [⟨(some 185), .move (.tmp 25), none⟩,
    ⟨(some 186), .move (.tmp 26), none⟩,
    ⟨(some 187), .call ⟨.value (.func 13), #[(.tmp 185), (.tmp 186)], #[24, 3]⟩, none⟩,
    ⟨(some 184), .move (.tmp 187), none⟩,
    ⟨(some 188), .extract (.tmp 184) 0, none⟩,
    ⟨(some 189), .extract (.tmp 184) 1, none⟩,
    ⟨(some 27), .assign (.tmp 188), none⟩,
    ⟨(some 28), .assign (.tmp 189), none⟩] [0, 3, 25, 26, 27, 28])
  laws_FnPresses_t13))
/-- slots: [0, 3] -/
def laws_FnPresses_t11 : ACode := (.cut [0, 3] (.seq (.reg [⟨(some 180), .move (.tmp 0), none⟩,
    ⟨(some 181), .call ⟨.value (.func 12), #[(.tmp 180)], #[22]⟩, none⟩,
    ⟨(some 179), .move (.tmp 181), none⟩,
    ⟨(some 182), .extract (.tmp 179) 0, none⟩,
    ⟨(some 183), .extract (.tmp 179) 1, none⟩,
    ⟨(some 25), .assign (.tmp 182), none⟩,
    ⟨(some 26), .assign (.tmp 183), none⟩] [0, 3, 25, 26])
  laws_FnPresses_t12))
/-- slots: [0, 3, 19, 22] -/
def laws_FnPresses_t10 : ACode := (.cut [0, 3, 19, 22] (.seq (.seq (.reg [⟨(some 24), .assign (.const (.int .i64 0)), none⟩] [0, 3, 19, 22, 24])
  (.block 2 (.loop laws_FnPresses_l1)))
  laws_FnPresses_t11))
/-- slots: [0, 3, 18, 19, 22] -/
def laws_FnPresses_t9 : ACode := (.cut [0, 3, 18, 19, 22] (.seq (.seq (.reg [⟨(some 23), .assign (.const (.int .i64 0)), none⟩] [0, 3, 18, 19, 22, 23])
  (.block 0 (.loop laws_FnPresses_l0)))
  laws_FnPresses_t10))
/-- slots: [0, 3, 18, 19] -/
def laws_FnPresses_t8 : ACode := (.cut [0, 3, 18, 19] (.seq (.reg [⟨(some 22), .assign (.const (.int .i64 0)), none⟩] [0, 3, 18, 19, 22])
  laws_FnPresses_t9))
/-- slots: [0, 3, 18, 19] -/
def laws_FnPresses_t7 : ACode := (.cut [0, 3, 18, 19] (.seq (.seq (.reg [⟨(some 130), .move (.tmp 3), none⟩,
    ⟨(some 131), .call ⟨.value (.func 11), #[(.tmp 130)], #[24]⟩, none⟩,
    ⟨(some 129), .move (.tmp 131), none⟩,
    ⟨(some 132), .extract (.tmp 129) 0, none⟩,
    ⟨(some 133), .extract (.tmp 129) 1, none⟩,
    ⟨(some 20), .assign (.tmp 132), none⟩,
    ⟨(some 21), .assign (.tmp 133), none⟩] [0, 3, 18, 19, 20, 21])
  (.seq (.reg [⟨(some 134), .move (.tmp 18), none⟩,
    ⟨(some 135), .move (.tmp 20), none⟩,
    ⟨(some 136), .binOp .neq 3 (.tmp 134) (.tmp 135) 3, none⟩,
    ⟨(some 137), .move (.tmp 136), none⟩,
    ⟨(some 138), .move (.tmp 19), (some (some 137, false))⟩,
    ⟨(some 139), .move (.tmp 21), (some (some 137, false))⟩,
    ⟨(some 140), .binOp .neq 4 (.tmp 138) (.tmp 139) 4, (some (some 137, false))⟩,
    ⟨(some 141), .pick (.tmp 137) (.const (.bool true)) (.tmp 140), none⟩] [0, 3, 18, 19, 141])
  (.cond (.tmp 141) (.seq (.reg [⟨(some 2), .assign (.const (.bool false)), none⟩] [2])
  .ret)
  .skip)))
  laws_FnPresses_t8))
/-- slots: [0, 3] -/
def laws_FnPresses_t6 : ACode := (.cut [0, 3] (.seq (.reg [⟨(some 125), .move (.tmp 3), none⟩,
    ⟨(some 126), .call ⟨.value (.func 10), #[(.tmp 125)], #[24]⟩, none⟩,
    ⟨(some 124), .move (.tmp 126), none⟩,
    ⟨(some 127), .extract (.tmp 124) 0, none⟩,
    ⟨(some 128), .extract (.tmp 124) 1, none⟩,
    ⟨(some 18), .assign (.tmp 127), none⟩,
    ⟨(some 19), .assign (.tmp 128), none⟩] [0, 3, 18, 19])
  laws_FnPresses_t7))
/-- slots: [0, 3, 4, 5, 8, 10] -/
def laws_FnPresses_t5 : ACode := (.cut [0, 3, 4, 5, 8, 10] (.seq (.seq (.reg [⟨(some 98), .move (.tmp 10), none⟩] [0, 3, 4, 5, 8, 98])
  (.cond (.tmp 98) (.seq (.reg [⟨(some 100), .move (.tmp 3), none⟩,
    ⟨(some 101), .move (.tmp 4), none⟩,
    ⟨(some 102), .call ⟨.value (.func 9), #[(.tmp 100), (.tmp 101)], #[24, 3]⟩, none⟩,
    ⟨(some 99), .move (.tmp 102), none⟩,
    ⟨(some 103), .extract (.tmp 99) 0, none⟩,
    ⟨(some 104), .extract (.tmp 99) 1, none⟩,
    ⟨(some 14), .assign (.tmp 103), none⟩,
    ⟨(some 15), .assign (.tmp 104), none⟩] [0, 3, 4, 5, 8, 14, 15])
  (.seq (.reg [⟨(some 106), .move (.tmp 8), none⟩,
    ⟨(some 107), .move (.tmp 4), none⟩,
    ⟨(some 108), .call ⟨.value (.func 9), #[(.tmp 106), (.tmp 107)], #[24, 3]⟩, none⟩,
    ⟨(some 105), .move (.tmp 108), none⟩,
    ⟨(some 109), .extract (.tmp 105) 0, none⟩,
    ⟨(some 110), .extract (.tmp 105) 1, none⟩,
    ⟨(some 16), .assign (.tmp 109), none⟩,
    ⟨(some 17), .assign (.tmp 110), none⟩] [0, 3, 5, 14, 15, 16, 17])
  (.seq (.reg [⟨(some 111), .move (.tmp 15), none⟩,
    ⟨(some 112), .unOp .not 4 (.tmp 111), none⟩,
    ⟨(some 113), .move (.tmp 112), none⟩,
    ⟨(some 114), .move (.tmp 17), (some (some 113, false))⟩,
    ⟨(some 115), .unOp .not 4 (.tmp 114), (some (some 113, false))⟩,
    ⟨(some 116), .pick (.tmp 113) (.const (.bool true)) (.tmp 115), none⟩,
    ⟨(some 117), .move (.tmp 116), none⟩,
    ⟨(some 118), .move (.tmp 16), (some (some 117, false))⟩,
    ⟨(some 119), .move (.tmp 14), (some (some 117, false))⟩,
    ⟨(some 120), .binOp .sub 3 (.tmp 118) (.tmp 119) 3, (some (some 117, false))⟩,
    ⟨(some 121), .move (.tmp 5), (some (some 117, false))⟩,
    ⟨(some 122), .binOp .neq 3 (.tmp 120) (.tmp 121) 3, (some (some 117, false))⟩,
    ⟨(some 123), .pick (.tmp 117) (.const (.bool true)) (.tmp 122), none⟩] [0, 3, 123])
  (.cond (.tmp 123) (.seq (.reg [⟨(some 2), .assign (.const (.bool false)), none⟩] [2])
  .ret)
  .skip))))
  .skip))
  laws_FnPresses_t6))
/-- slots: [0, 3, 4, 5, 6, 7, 8, 9, 10] -/
def laws_FnPresses_t4 : ACode := (.cut [0, 3, 4, 5, 6, 7, 8, 9, 10] (.seq (.seq (.reg [⟨(some 75), .move (.tmp 3), none⟩,
    ⟨(some 76), .move (.tmp 4), none⟩,
    ⟨(some 77), .move (.tmp 5), none⟩,
    ⟨(some 78), .move (.tmp 6), none⟩,
    ⟨(some 79), .move (.tmp 7), none⟩,
    ⟨(some 80), .call ⟨.value (.func 7), #[(.tmp 75), (.tmp 76), (.tmp 77), (.tmp 78), (.tmp 79)], #[24, 3, 3, 3, 3]⟩, none⟩,
    ⟨(some 74), .move (.tmp 80), none⟩,
    ⟨(some 81), .extract (.tmp 74) 0, none⟩,
    ⟨(some 82), .extract (.tmp 74) 1, none⟩,
    ⟨(some 83), .extract (.tmp 74) 2, none⟩,
    ⟨(some 11), .assign (.tmp 81), none⟩,
    ⟨(some 12), .assign (.tmp 82), none⟩,
    ⟨(some 13), .assign (.tmp 83), none⟩] [0, 3, 4, 5, 8, 9, 10, 11, 12, 13])
  (.seq (.reg [⟨(some 84), .move (.tmp 10), none⟩,
    ⟨(some 85), .move (.tmp 13), none⟩,
    ⟨(some 86), .binOp .neq 4 (.tmp 84) (.tmp 85) 4, none⟩,
    ⟨(some 87), .move (.tmp 86), none⟩,
    ⟨(some 88), .move (.tmp 9), (some (some 87, false))⟩,
    ⟨(some 89), .move (.tmp 12), (some (some 87, false))⟩,
    ⟨(some 90), .binOp .neq 3 (.tmp 88) (.tmp 89) 3, (some (some 87, false))⟩,
    ⟨(some 91), .pick (.tmp 87) (.const (.bool true)) (.tmp 90), none⟩,
    ⟨(some 92), .move (.tmp 91), none⟩,
    ⟨(some 93), .move (.tmp 8), (some (some 92, false))⟩,
    ⟨(some 94), .move (.tmp 11), (some (some 92, false))⟩,
    ⟨(some 95), .call ⟨.value (.func 8), #[(.tmp 93), (.tmp 94)], #[24, 24]⟩, (some (some 92, false))⟩,
    ⟨(some 96), .unOp .not 4 (.tmp 95), (some (some 92, false))⟩,
    ⟨(some 97), .pick (.tmp 92) (.const (.bool true)) (.tmp 96), none⟩] [0, 3, 4, 5, 8, 10, 97])
  (.cond (.tmp 97) (.seq (.reg [⟨(some 2), .assign (.const (.bool false)), none⟩] [2])
  .ret)
  .skip)))
  laws_FnPresses_t5))
/-- slots: [0, 3, 4, 5, 6, 7] -/
def laws_FnPresses_t3 : ACode := (.cut [0, 3, 4, 5, 6, 7] (.seq (.reg [⟨(some 65), .move (.tmp 3), none⟩,
    ⟨(some 66), .move (.tmp 4), none⟩,
    ⟨(some 67), .move (.tmp 5), none⟩,
    ⟨(some 68), .move (.tmp 6), none⟩,
    ⟨(some 69), .move (.tmp 7), none⟩,
    ⟨(some 70), .call ⟨.value (.func 6), #[(.tmp 65), (.tmp 66), (.tmp 67), (.tmp 68), (.tmp 69)], #[24, 3, 3, 3, 3]⟩, none⟩,
    ⟨(some 64), .move (.tmp 70), none⟩,
    ⟨(some 71), .extract (.tmp 64) 0, none⟩,
    ⟨(some 72), .extract (.tmp 64) 1, none⟩,
    ⟨(some 73), .extract (.tmp 64) 2, none⟩,
    ⟨(some 8), .assign (.tmp 71), none⟩,
    ⟨(some 9), .assign (.tmp 72), none⟩,
    ⟨(some 10), .assign (.tmp 73), none⟩] [0, 3, 4, 5, 6, 7, 8, 9, 10])
  laws_FnPresses_t4))
/-- slots: [0] -/
def laws_FnPresses_t2 : ACode := (.cut [0] (.seq (.reg [⟨(some 57), .move (.tmp 0), none⟩,
    ⟨(some 58), .call ⟨.value (.func 5), #[(.tmp 57)], #[22]⟩, none⟩,
    ⟨(some 56), .move (.tmp 58), none⟩,
    ⟨(some 59), .extract (.tmp 56) 0, none⟩,
    ⟨(some 60), .extract (.tmp 56) 1, none⟩,
    ⟨(some 61), .extract (.tmp 56) 2, none⟩,
    ⟨(some 62), .extract (.tmp 56) 3, none⟩,
    ⟨(some 63), .extract (.tmp 56) 4, none⟩,
    ⟨(some 3), .assign (.tmp 59), none⟩,
    ⟨(some 4), .assign (.tmp 60), none⟩,
    ⟨(some 5), .assign (.tmp 61), none⟩,
    ⟨(some 6), .assign (.tmp 62), none⟩,
    ⟨(some 7), .assign (.tmp 63), none⟩] [0, 3, 4, 5, 6, 7])
  laws_FnPresses_t3))
/-- slots: [0] -/
def laws_FnPresses_t1 : ACode := (.cut [0] (.seq (.seq (.reg [⟨(some 54), .move (.tmp 0), none⟩,
    ⟨(some 55), .call ⟨.value (.func 4), #[(.tmp 54)], #[22]⟩, none⟩] [0, 55])
  (.cond (.tmp 55) (.seq (.reg [⟨(some 2), .assign (.const (.bool true)), none⟩] [2])
  .ret)
  .skip))
  laws_FnPresses_t2))
/-- loop.example/g01062/laws.FnPresses: number 3, params [0] -/
def laws_FnPresses_c : ACode := (.seq (.reg [⟨(some 2), .assign (.const (.bool false)), none⟩] [0])
  laws_FnPresses_t1)
theorem laws_FnPresses_k : fnOk Tryd.prog (fun _ => false) 3 = some (laws_FnPresses_c.strip, 338, [.tmp 2]) := by kernel_rfl
/-- loop.example/g01062/laws.rBig: number 4, params [0] -/
def laws_rBig_c : ACode := (.seq (.reg [⟨(some 2), .assign (.const (.bool false)), none⟩] [0])
  (.seq (.reg [⟨(some 3), .move (.tmp 0), none⟩,
    ⟨(some 4), .call ⟨.builtin .len, #[(.tmp 3)], #[22]⟩, none⟩,
    ⟨(some 5), .binOp .gtr 3 (.tmp 4) (.const (.int .i64 65536)) 3, none⟩,
    ⟨(some 2), .assign (.tmp 5), none⟩] [2])
  .ret))
theorem laws_rBig_k : fnOk Tryd.prog (fun _ => false) 4 = some (laws_rBig_c.strip, 6, [.tmp 2]) := by kernel_rfl
/-- loop.example/g01062/impl.NextPrinting: number 6, params [0, 1, 2, 3, 4] -/
def impl_NextPrinting_c : ACode := (.seq (.reg [⟨(some 10), .assign (.const (.slice none 0 0)), none⟩,
    ⟨(some 11), .assign (.const (.int .i64 0)), none⟩,
    ⟨(some 12), .assign (.const (.bool false)), none⟩] [0, 1, 2, 3, 4])
  (.seq (.seq (.reg [⟨(some 16), .move (.tmp 0), none⟩,
    ⟨(some 17), .call ⟨.value (.func 30), #[(.tmp 16)], #[24]⟩, none⟩,
    ⟨(some 18), .unOp .not 4 (.tmp 17), none⟩] [0, 1, 2, 3, 4, 18])
  (.cond (.tmp 18) (.seq (.reg [⟨(some 10), .assign (.const (.slice none 0 0)), none⟩,
    ⟨(some 11), .assign (.const (.int .i64 0)), none⟩,
    ⟨(some 12), .assign (.const (.bool false)), none⟩] [10, 11, 12])
  .ret)
  .skip))
  (.seq (.reg [⟨(some 13), .assign (.const (.int .i64 1)), none⟩] [0, 1, 2, 3, 4, 13])
  (.seq (.seq (.reg [⟨(some 19), .move (.tmp 0), none⟩,
    ⟨(some 20), .call ⟨.builtin .len, #[(.tmp 19)], #[24]⟩, none⟩,
    ⟨(some 14), .assign (.tmp 20), none⟩] [0, 1, 2, 3, 4, 13, 14])
  (.seq (.reg [⟨(some 21), .move (.tmp 14), none⟩,
    ⟨(some 22), .binOp .gtr 3 (.tmp 21) (.const (.int .i64 0)) 3, none⟩] [0, 1, 2, 3, 4, 13, 14, 22])
  (.cond (.tmp 22) (.reg [⟨(some 23), .move (.tmp 0), none⟩,
    ⟨(some 24), .move (.tmp 14), none⟩,
    ⟨(some 25), .binOp .sub 3 (.tmp 24) (.const (.int .i64 1)) 3, none⟩,
    ⟨(some 26), .indexAddr 24 (.tmp 23) (.tmp 25), none⟩,
    ⟨(some 27), .fieldAddr 34 (.tmp 26) 0, none⟩,
    ⟨(some 28), .load 3 (.tmp 27), none⟩,
    ⟨(some 29), .binOp .add 3 (.tmp 28) (.const (.int .i64 1)) 3, none⟩,
    ⟨(some 13), .assign (.tmp 29), none⟩] [0, 1, 2, 3, 4, 13])
  .skip)))
  (.seq (.reg [⟨(some 30), .move (.tmp 0), none⟩,
    ⟨(some 31), .call ⟨.value (.func 31), #[(.tmp 30)], #[24]⟩, none⟩,
    ⟨(some 32), .move (.tmp 13), none⟩,
    ⟨(some 33), .move (.tmp 1), none⟩,
    ⟨(some 34), .move (.tmp 2), none⟩,
    ⟨(some 35), .move (.tmp 3), none⟩,
    ⟨(some 36), .move (.tmp 4), none⟩,
    ⟨(some 37), .build 34 #[(0, (.tmp 32)), (1, (.tmp 33)), (2, (.tmp 34)), (3, (.tmp 35)), (4, (.tmp 36))], none⟩,
    ⟨(some 38), .buildSlice 24 1 #[(0, (.tmp 37))], none⟩,
    ⟨(some 39), .call ⟨.builtin .append, #[(.tmp 31), (.tmp 38)], #[24, 24]⟩, none⟩,
    ⟨(some 15), .assign (.tmp 39), none⟩] [13, 15])
  (.seq (.seq (.reg [⟨(some 40), .move (.tmp 15), none⟩,
    ⟨(some 41), .call ⟨.value (.func 30), #[(.tmp 40)], #[24]⟩, none⟩,
    ⟨(some 42), .unOp .not 4 (.tmp 41), none⟩] [13, 15, 42])
  (.cond (.tmp 42) (.seq (.reg [⟨(some 10), .assign (.const (.slice none 0 0)), none⟩,
    ⟨(some 11), .assign (.const (.int .i64 0)), none⟩,
    ⟨(some 12), .assign (.const (.bool false)), none⟩] [10, 11, 12])
  .ret)
  .skip))
  (.seq (.reg [⟨(some 43), .move (.tmp 15), none⟩,
    ⟨(some 44), .move (.tmp 13), none⟩,
    ⟨(some 10), .assign (.tmp 43), none⟩,
    ⟨(some 11), .assign (.tmp 44), none⟩,
    ⟨(some 12), .assign (.const (.bool true)), none⟩] [10, 11, 12])
  .ret)))))))
theorem impl_NextPrinting_k : fnOk Tryd.prog (fun _ => false) 6 = some (impl_NextPrinting_c.strip, 45, [.tmp 10, .tmp 11, .tmp 12]) := by kernel_rfl
/-- loop.example/g01062/spec.NextPrinting: number 7, params [0, 1, 2, 3, 4] -/
def spec_NextPrinting_c : ACode := (.seq (.reg [⟨(some 10), .assign (.const (.slice none 0 0)), none⟩,
    ⟨(some 11), .assign (.const (.int .i64 0)), none⟩,
    ⟨(some 12), .assign (.const (.bool false)), none⟩] [0, 1, 2, 3, 4])
  (.seq (.reg [⟨(some 13), .assign (.const (.int .i64 1)), none⟩] [0, 1, 2, 3, 4, 13])
  (.seq (.seq (.reg [⟨(some 16), .move (.tmp 0), none⟩,
    ⟨(some 17), .call ⟨.builtin .len, #[(.tmp 16)], #[24]⟩, none⟩,
    ⟨(some 14), .assign (.tmp 17), none⟩] [0, 1, 2, 3, 4, 13, 14])
  (.seq (.reg [⟨(some 18), .move (.tmp 14), none⟩,
    ⟨(some 19), .binOp .gtr 3 (.tmp 18) (.const (.int .i64 0)) 3, none⟩] [0, 1, 2, 3, 4, 13, 14, 19])
  (.cond (.tmp 19) (.reg [⟨(some 20), .move (.tmp 0), none⟩,
    ⟨(some 21), .move (.tmp 14), none⟩,
    ⟨(some 22), .binOp .sub 3 (.tmp 21) (.const (.int .i64 1)) 3, none⟩,
    ⟨(some 23), .indexAddr 24 (.tmp 20) (.tmp 22), none⟩,
    ⟨(some 24), .fieldAddr 34 (.tmp 23) 0, none⟩,
    ⟨(some 25), .load 3 (.tmp 24), none⟩,
    ⟨(some 26), .binOp .add 3 (.tmp 25) (.const (.int .i64 1)) 3, none⟩,
    ⟨(some 13), .assign (.tmp 26), none⟩] [0, 1, 2, 3, 4, 13])
  .skip)))
  (.seq (.reg [⟨(some 27), .buildSlice 24 0 #[], none⟩,
    ⟨(some 28), .move (.tmp 0), none⟩,
    ⟨(some 29), .call ⟨.builtin .append, #[(.tmp 27), (.tmp 28)], #[24, 24]⟩, none⟩,
    ⟨(some 30), .move (.tmp 13), none⟩,
    ⟨(some 31), .move (.tmp 1), none⟩,
    ⟨(some 32), .move (.tmp 2), none⟩,
    ⟨(some 33), .move (.tmp 3), none⟩,
    ⟨(some 34), .move (.tmp 4), none⟩,
    ⟨(some 35), .build 34 #[(0, (.tmp 30)), (1, (.tmp 31)), (2, (.tmp 32)), (3, (.tmp 33)), (4, (.tmp 34))], none⟩,
    ⟨(some 36), .buildSlice 24 1 #[(0, (.tmp 35))], none⟩,
    ⟨(some 37), .call ⟨.builtin .append, #[(.tmp 29), (.tmp 36)], #[24, 24]⟩, none⟩,
    ⟨(some 15), .assign (.tmp 37), none⟩] [0, 13, 15])
  (.seq (.seq (.reg [⟨(some 38), .move (.tmp 0), none⟩,
    ⟨(some 39), .call ⟨.value (.func 32), #[(.tmp 38)], #[24]⟩, none⟩,
    ⟨(some 40), .unOp .not 4 (.tmp 39), none⟩,
    ⟨(some 41), .move (.tmp 40), none⟩,
    ⟨(some 42), .move (.tmp 15), (some (some 41, false))⟩,
    ⟨(some 43), .call ⟨.value (.func 32), #[(.tmp 42)], #[24]⟩, (some (some 41, false))⟩,
    ⟨(some 44), .unOp .not 4 (.tmp 43), (some (some 41, false))⟩,
    ⟨(some 45), .pick (.tmp 41) (.const (.bool true)) (.tmp 44), none⟩] [13, 15, 45])
  (.cond (.tmp 45) (.seq (.reg [⟨(some 46), .buildSlice 24 0 #[], none⟩,
    ⟨(some 10), .assign (.tmp 46), none⟩,
    ⟨(some 11), .assign (.const (.int .i64 0)), none⟩,
    ⟨(some 12), .assign (.const (.bool false)), none⟩] [10, 11, 12])
  .ret)
  .skip))
  (.seq (.reg [⟨(some 47), .move (.tmp 15), none⟩,
    ⟨(some 48), .move (.tmp 13), none⟩,
    ⟨(some 10), .assign (.tmp 47), none⟩,
    ⟨(some 11), .assign (.tmp 48), none⟩,
    ⟨(some 12), .assign (.const (.bool true)), none⟩] [10, 11, 12])
  .ret))))))
theorem spec_NextPrinting_k : fnOk Tryd.prog (fun _ => false) 7 = some (spec_NextPrinting_c.strip, 49, [.tmp 10, .tmp 11, .tmp 12]) := by kernel_rfl
/-- head: [0, 1, 5] -/
def laws_rPrintings_l0 : ACode := (.seq (.seq (.reg [⟨(some 11), .move (.tmp 5), none⟩,
    ⟨(some 12), .move (.tmp 0), none⟩,
    ⟨(some 13), .call ⟨.builtin .len, #[(.tmp 12)], #[24]⟩, none⟩,
    ⟨(some 14), .binOp .lss 3 (.tmp 11) (.tmp 13) 3, none⟩] [0, 1, 5, 14])
  (.cond (.tmp 14) .skip
  (.exit 0)))
  (.seq (.block 1 (.seq (.regQ [⟨(some 17), .move (.tmp 0), none⟩,
    ⟨(some 18), .move (.tmp 5), none⟩,
    ⟨(some 19), .indexAddr 24 (.tmp 17) (.tmp 18), none⟩,
    ⟨(some 20), .load 34 (.tmp 19), none⟩,
    ⟨(some 21), .move (.tmp 1), none⟩,
    ⟨(some 22), .move (.tmp 5), none⟩,
    ⟨(some 23), .indexAddr 24 (.tmp 21) (.tmp 22), none⟩,
    ⟨(some 24), .load 34 (.tmp 23), none⟩,
    ⟨(some 25), .binOp .neq 34 (.tmp 20) (.tmp 24) 34, none⟩] [0, 1, 5, 25])
  (.cond (.tmp 25) (.seq (.reg [⟨(some 4), .assign (.const (.bool false)), none⟩] [4])
  .ret)
  .skip)))
  (.reg [⟨(some 15), .move (.tmp 5), none⟩,
    ⟨(some 16), .binOp .add 3 (.tmp 15) (.const (.int .i64 1)) 3, none⟩,
    ⟨(some 5), .assign (.tmp 16), none⟩] [0, 1, 5])))
/-- loop.example/g01062/laws.rPrintings: number 8, params [0, 1] -/
def laws_rPrintings_c : ACode := (.seq (.reg [⟨(some 4), .assign (.const (.bool false)), none⟩] [0, 1])
  (.seq (.seq (.reg [⟨(some 6), .move (.tmp 0), none⟩,
    ⟨(some 7), .call ⟨.builtin .len, #[(.tmp 6)], #[24]⟩, none⟩,
    ⟨(some 8), .move (.tmp 1), none⟩,
    ⟨(some 9), .call ⟨.builtin .len, #[(.tmp 8)], #[24]⟩, none⟩,
    ⟨(some 10), .binOp .neq 3 (.tmp 7) (.tmp 9) 3, none⟩] [0, 1, 10])
  (.cond (.tmp 10) (.seq (.reg [⟨(some 4), .assign (.const (.bool false)), none⟩] [4])
  .ret)
  .skip))
  (.seq (.seq (.reg [⟨(some 5), .assign (.const (.int .i64 0)), none⟩] [0, 1, 5])
  (.block 0 (.loop laws_rPrintings_l0)))
  (.seq (.reg [⟨(some 4), .assign (.const (.bool true)), none⟩] [4])
  .ret))))
theorem laws_rPrintings_k : fnOk Tryd.prog (fun _ => false) 8 = some (laws_rPrintings_c.strip, 26, [.tmp 4]) := by kernel_rfl
/-- head: [1, 6, 17, 18, 19] -/
def impl_SheetsBy_l0 : ACode := (.seq (.reg [⟨(some 20), .binOp .lss 3 (.tmp 19) (.tmp 18) 3, none⟩] [1, 6, 17, 18, 19, 20])
  (.seq (.cond (.tmp 20) .skip
  (.exit 0))
  (.seq (.block 1 (.seq (.reg [⟨(some 21), .indexAddr 24 (.tmp 17) (.tmp 19), none⟩,
    ⟨(some 22), .load 34 (.tmp 21), none⟩,
    ⟨(some 8), .alloc 34, none⟩,
    ⟨none, .store 34 (.tmp 8) (.tmp 22), none⟩] [1, 6, 8, 17, 18, 19])
  (.seq (.reg [⟨(some 23), .fieldAddr 34 (.tmp 8) 1, none⟩,
    ⟨(some 24), .load 3 (.tmp 23), none⟩,
    ⟨(some 25), .move (.tmp 1), none⟩,
    ⟨(some 26), .binOp .leq 3 (.tmp 24) (.tmp 25) 3, none⟩] [1, 6, 8, 17, 18, 19, 26])
  (.cond (.tmp 26) (.reg [⟨(some 27), .move (.tmp 6), none⟩,
    ⟨(some 28), .fieldAddr 34 (.tmp 8) 2, none⟩,
    ⟨(some 29), .load 3 (.tmp 28), none⟩,
    ⟨(some 30), .binOp .add 3 (.tmp 27) (.tmp 29) 3, none⟩,
    ⟨(some 6), .assign (.tmp 30), none⟩] [1, 6, 17, 18, 19])
  .skip))))
  (.reg [⟨(some 31), .binOp .add 3 (.tmp 19) (.const (.int .i64 1)) 3, none⟩,
    ⟨(some 19), .move (.tmp 31), none⟩] [1, 6, 17, 18, 19]))))
/-- loop.example/g01062/impl.SheetsBy: number 9, params [0, 1] -/
def impl_SheetsBy_c : ACode := (.seq (.reg [⟨(some 4), .assign (.const (.int .i64 0)), none⟩,
    ⟨(some 5), .assign (.const (.bool false)), none⟩] [0, 1])
  (.seq (.seq (.reg [⟨(some 9), .move (.tmp 0), none⟩,
    ⟨(some 10), .call ⟨.value (.func 30), #[(.tmp 9)], #[24]⟩, none⟩,
    ⟨(some 11), .unOp .not 4 (.tmp 10), none⟩,
    ⟨(some 12), .move (.tmp 11), none⟩,
    ⟨(some 13), .move (.tmp 1), (some (some 12, false))⟩,
    ⟨(some 14), .call ⟨.value (.func 33), #[(.tmp 13)], #[3]⟩, (some (some 12, false))⟩,
    ⟨(some 15), .unOp .not 4 (.tmp 14), (some (some 12, false))⟩,
    ⟨(some 16), .pick (.tmp 12) (.const (.bool true)) (.tmp 15), none⟩] [0, 1, 16])
  (.cond (.tmp 16) (.seq (.reg [⟨(some 4), .assign (.const (.int .i64 0)), none⟩,
    ⟨(some 5), .assign (.const (.bool false)), none⟩] [4, 5])
  .ret)
  .skip))
  (.seq (.reg [⟨(some 6), .assign (.const (.int .i64 0)), none⟩] [0, 1, 6])
  (.seq (.seq (.reg [⟨(some 17), .move (.tmp 0), none⟩,
    ⟨(some 18), .call ⟨.builtin .len, #[(.tmp 17)], #[24]⟩, none⟩,
    ⟨(some 19), .move (.const (.int .i64 0)), none⟩] [1, 6, 17, 18, 19])
  (.block 0 (.loop impl_SheetsBy_l0)))
  (.seq (.reg [⟨(some 32), .move (.tmp 6), none⟩,
    ⟨(some 4), .assign (.tmp 32), none⟩,
    ⟨(some 5), .assign (.const (.bool true)), none⟩] [4, 5])
  .ret)))))
theorem impl_SheetsBy_k : fnOk Tryd.prog (fun _ => false) 9 = some (impl_SheetsBy_c.strip, 33, [.tmp 4, .tmp 5]) := by kernel_rfl
/-- head: [4, 18, 19, 20] -/
def impl_RarestPrinting_l0 : ACode := (.seq (.reg [⟨(some 21), .binOp .lss 3 (.tmp 20) (.tmp 19) 3, none⟩] [4, 18, 19, 20, 21])
  (.seq (.cond (.tmp 21) .skip
  (.exit 0))
  (.seq (.block 1 (.seq (.reg [⟨(some 22), .indexAddr 24 (.tmp 18) (.tmp 20), none⟩,
    ⟨(some 23), .load 34 (.tmp 22), none⟩,
    ⟨(some 6), .alloc 34, none⟩,
    ⟨none, .store 34 (.tmp 6) (.tmp 23), none⟩] [4, 6, 18, 19, 20])
  (.seq (.reg [⟨(some 24), .fieldAddr 34 (.tmp 6) 2, none⟩,
    ⟨(some 25), .load 3 (.tmp 24), none⟩,
    ⟨(some 26), .fieldAddr 34 (.tmp 4) 2, none⟩,
    ⟨(some 27), .load 3 (.tmp 26), none⟩,
    ⟨(some 28), .binOp .lss 3 (.tmp 25) (.tmp 27) 3, none⟩] [4, 6, 18, 19, 20, 28])
  (.cond (.tmp 28) (.reg [⟨(some 29), .load 34 (.tmp 6), none⟩,
    ⟨none, .store 34 (.tmp 4) (.tmp 29), none⟩] [4, 18, 19, 20])
  .skip))))
  (.reg [⟨(some 30), .binOp .add 3 (.tmp 20) (.const (.int .i64 1)) 3, none⟩,
    ⟨(some 20), .move (.tmp 30), none⟩] [4, 18, 19, 20]))))
/-- loop.example/g01062/impl.RarestPrinting: number 10, params [0] -/
def impl_RarestPrinting_c : ACode := (.seq (.reg [⟨(some 2), .assign (.const (.int .i64 0)), none⟩,
    ⟨(some 3), .assign (.const (.bool false)), none⟩] [0])
  (.seq (.seq (.reg [⟨(some 7), .move (.tmp 0), none⟩,
    ⟨(some 8), .call ⟨.value (.func 30), #[(.tmp 7)], #[24]⟩, none⟩,
    ⟨(some 9), .unOp .not 4 (.tmp 8), none⟩,
    ⟨(some 10), .move (.tmp 9), none⟩,
    ⟨(some 11), .move (.tmp 0), (some (some 10, false))⟩,
    ⟨(some 12), .call ⟨.builtin .len, #[(.tmp 11)], #[24]⟩, (some (some 10, false))⟩,
    ⟨(some 13), .binOp .eql 3 (.tmp 12) (.const (.int .i64 0)) 3, (some (some 10, false))⟩,
    ⟨(some 14), .pick (.tmp 10) (.const (.bool true)) (.tmp 13), none⟩] [0, 14])
  (.cond (.tmp 14) (.seq (.reg [⟨(some 2), .assign (.const (.int .i64 0)), none⟩,
    ⟨(some 3), .assign (.const (.bool false)), none⟩] [2, 3])
  .ret)
  .skip))
  (.seq (.reg [⟨(some 15), .move (.tmp 0), none⟩,
    ⟨(some 16), .indexAddr 24 (.tmp 15) (.const (.int .i64 0)), none⟩,
    ⟨(some 17), .load 34 (.tmp 16), none⟩,
    ⟨(some 4), .alloc 34, none⟩,
    ⟨none, .store 34 (.tmp 4) (.tmp 17), none⟩] [0, 4])
  (.seq (.seq (.reg [⟨(some 18), .move (.tmp 0), none⟩,
    ⟨(some 19), .call ⟨.builtin .len, #[(.tmp 18)], #[24]⟩, none⟩,
    ⟨(some 20), .move (.const (.int .i64 0)), none⟩] [4, 18, 19, 20])
  (.block 0 (.loop impl_RarestPrinting_l0)))
  (.seq (.reg [⟨(some 31), .fieldAddr 34 (.tmp 4) 0, none⟩,
    ⟨(some 32), .load 3 (.tmp 31), none⟩,
    ⟨(some 2), .assign (.tmp 32), none⟩,
    ⟨(some 3), .assign (.const (.bool true)), none⟩] [2, 3])
  .ret)))))
theorem impl_RarestPrinting_k : fnOk Tryd.prog (fun _ => false) 10 = some (impl_RarestPrinting_c.strip, 33, [.tmp 2, .tmp 3]) := by kernel_rfl
/-- head: [0, 4, 5, 6] -/
def spec_RarestPrinting_l0 : ACode := (.seq (.seq (.reg [⟨(some 15), .move (.tmp 6), none⟩,
    ⟨(some 16), .move (.tmp 0), none⟩,
    ⟨(some 17), .call ⟨.builtin .len, #[(.tmp 16)], #[24]⟩, none⟩,
    ⟨(some 18), .binOp .lss 3 (.tmp 15) (.tmp 17) 3, none⟩] [0, 4, 5, 6, 18])
  (.cond (.tmp 18) .skip
  (.exit 0)))
  (.seq (.block 1 (.seq (.reg [⟨(some 21), .move (.tmp 0), none⟩,
    ⟨(some 22), .move (.tmp 6), none⟩,
    ⟨(some 23), .indexAddr 24 (.tmp 21) (.tmp 22), none⟩,
    ⟨(some 24), .fieldAddr 34 (.tmp 23) 2, none⟩,
    ⟨(some 25), .load 3 (.tmp 24), none⟩,
    ⟨(some 26), .move (.tmp 5), none⟩,
    ⟨(some 27), .binOp .lss 3 (.tmp 25) (.tmp 26) 3, none⟩] [0, 4, 5, 6, 27])
  (.cond (.tmp 27) (.seq (.reg [⟨(some 28), .move (.tmp 0), none⟩,
    ⟨(some 29), .move (.tmp 6), none⟩,
    ⟨(some 30), .indexAddr 24 (.tmp 28) (.tmp 29), none⟩,
    ⟨(some 31), .fieldAddr 34 (.tmp 30) 0, none⟩,
    ⟨(some 32), .load 3 (.tmp 31), none⟩,
    ⟨(some 4), .assign (.tmp 32), none⟩] [0, 4, 6])
  (.reg [⟨(some 33), .move (.tmp 0), none⟩,
    ⟨(some 34), .move (.tmp 6), none⟩,
    ⟨(some 35), .indexAddr 24 (.tmp 33) (.tmp 34), none⟩,
    ⟨(some 36), .fieldAddr 34 (.tmp 35) 2, none⟩,
    ⟨(some 37), .load 3 (.tmp 36), none⟩,
    ⟨(some 5), .assign (.tmp 37), none⟩] [0, 4, 5, 6]))
  .skip)))
  (.reg [⟨(some 19), .move (.tmp 6), none⟩,
    ⟨(some 20), .binOp .add 3 (.tmp 19) (.const (.int .i64 1)) 3, none⟩,
    ⟨(some 6), .assign (.tmp 20), none⟩] [0, 4, 5, 6])))
/-- loop.example/g01062/spec.RarestPrinting: number 11, params [0] -/
def spec_RarestPrinting_c : ACode := (.seq (.reg [⟨(some 2), .assign (.const (.int .i64 0)), none⟩,
    ⟨(some 3), .assign (.const (.bool false)), none⟩] [0])
  (.seq (.seq (.reg [⟨(some 7), .move (.tmp 0), none⟩,
    ⟨(some 8), .call ⟨.value (.func 32), #[(.tmp 7)], #[24]⟩, none⟩,
    ⟨(some 9), .unOp .not 4 (.tmp 8), none⟩,
    ⟨(some 10), .move (.tmp 9), none⟩,
    ⟨(some 11), .move (.tmp 0), (some (some 10, false))⟩,
    ⟨(some 12), .call ⟨.builtin .len, #[(.tmp 11)], #[24]⟩, (some (some 10, false))⟩,
    ⟨(some 13), .binOp .eql 3 (.tmp 12) (.const (.int .i64 0)) 3, (some (some 10, false))⟩,
    ⟨(some 14), .pick (.tmp 10) (.const (.bool true)) (.tmp 13), none⟩] [0, 14])
  (.cond (.tmp 14) (.seq (.reg [⟨(some 2), .assign (.const (.int .i64 0)), none⟩,
    ⟨(some 3), .assign (.const (.bool false)), none⟩] [2, 3])
  .ret)
  .skip))
  (.seq (.reg [⟨(some 4), .assign (.const (.int .i64 0)), none⟩,
    ⟨(some 5), .assign (.const (.int .i64 10000)), none⟩] [0, 4, 5])
  (.seq (.seq (.reg [⟨(some 6), .assign (.const (.int .i64 0)), none⟩] [0, 4, 5, 6])
  (.block 0 (.loop spec_RarestPrinting_l0)))
  (.seq (.reg [⟨(some 38), .move (.tmp 4), none⟩,
    ⟨(some 2), .assign (.tmp 38), none⟩,
    ⟨(some 3), .assign (.const (.bool true)), none⟩] [2, 3])
  .ret)))))
theorem spec_RarestPrinting_k : fnOk Tryd.prog (fun _ => false) 11 = some (spec_RarestPrinting_c.strip, 39, [.tmp 2, .tmp 3]) := by kernel_rfl
/-- head: [0, 6, 7, 8, 9, 26, 27, 28] -/
def impl_UniqueTones_l0 : ACode := (.seq (.reg [⟨(some 29), .binOp .lss 3 (.tmp 28) (.tmp 27) 3, none⟩] [0, 6, 7, 8, 9, 26, 27, 28, 29])
  (.seq (.cond (.tmp 29) .skip
  (.exit 2))
  (.seq (.block 3 (.seq (.reg [⟨(some 30), .move (.tmp 28), none⟩,
    ⟨(some 31), .indexAddr 24 (.tmp 26) (.tmp 28), none⟩,
    ⟨(some 32), .load 34 (.tmp 31), none⟩,
    ⟨(some 11), .alloc 34, none⟩,
    ⟨(some 10), .assign (.tmp 30), none⟩,
    ⟨none, .store 34 (.tmp 11) (.tmp 32), none⟩] [0, 6, 7, 8, 9, 10, 11, 26, 27, 28])
  (.seq (.reg [⟨(some 33), .load 34 (.tmp 11), none⟩,
    ⟨(some 34), .move (.tmp 8), none⟩,
    ⟨(some 35), .call ⟨.value (.func 36), #[(.tmp 33), (.tmp 34)], #[34, 3]⟩, none⟩,
    ⟨(some 36), .move (.tmp 10), none⟩,
    ⟨(some 37), .move (.tmp 6), none⟩,
    ⟨(some 38), .binOp .eql 3 (.tmp 36) (.tmp 37) 3, none⟩,
    ⟨(some 39), .binOp .neq 4 (.tmp 35) (.tmp 38) 4, none⟩] [0, 6, 7, 8, 9, 26, 27, 28, 39])
  (.cond (.tmp 39) (.reg [⟨(some 9), .assign (.const (.bool false)), none⟩] [0, 6, 7, 8, 9, 26, 27, 28])
  .skip))))
  (.reg [⟨(some 40), .binOp .add 3 (.tmp 28) (.const (.int .i64 1)) 3, none⟩,
    ⟨(some 28), .move (.tmp 40), none⟩] [0, 6, 7, 8, 9, 26, 27, 28]))))
/-- head: [0, 6, 7, 8] -/
def impl_UniqueTones_l1 : ACode := (.seq (.seq (.reg [⟨(some 22), .move (.tmp 8), none⟩,
    ⟨(some 23), .binOp .leq 3 (.tmp 22) (.const (.int .i64 120)) 3, none⟩] [0, 6, 7, 8, 23])
  (.cond (.tmp 23) .skip
  (.exit 0)))
  (.seq (.block 1 (.seq (.reg [⟨(some 9), .assign (.const (.bool true)), none⟩] [0, 6, 7, 8, 9])
  (.seq (.seq (.reg [⟨(some 26), .move (.tmp 0), none⟩,
    ⟨(some 27), .call ⟨.builtin .len, #[(.tmp 26)], #[24]⟩, none⟩,
    ⟨(some 28), .move (.const (.int .i64 0)), none⟩] [0, 6, 7, 8, 9, 26, 27, 28])
  (.block 2 (.loop impl_UniqueTones_l0)))
  (.seq (.reg [⟨(some 41), .move (.tmp 9), none⟩] [0, 6, 7, 8, 41])
  (.cond (.tmp 41) (.reg [⟨(some 42), .move (.tmp 7), none⟩,
    ⟨(some 43), .move (.tmp 8), none⟩,
    ⟨(some 44), .buildSlice 37 1 #[(0, (.tmp 43))], none⟩,
    ⟨(some 45), .call ⟨.builtin .append, #[(.tmp 42), (.tmp 44)], #[37, 37]⟩, none⟩,
    ⟨(some 7), .assign (.tmp 45), none⟩] [0, 6, 7, 8])
  .skip)))))
  (.reg [⟨(some 24), .move (.tmp 8), none⟩,
    ⟨(some 25), .binOp .add 3 (.tmp 24) (.const (.int .i64 1)) 3, none⟩,
    ⟨(some 8), .assign (.tmp 25), none⟩] [0, 6, 7, 8])))
/-- loop.example/g01062/impl.UniqueTones: number 13, params [0, 1] -/
def impl_UniqueTones_c : ACode := (.seq (.reg [⟨(some 4), .assign (.const (.slice none 0 0)), none⟩,
    ⟨(some 5), .assign (.const (.bool false)), none⟩] [0, 1])
  (.seq (.reg [⟨(some 12), .move (.tmp 0), none⟩,
    ⟨(some 13), .move (.tmp 1), none⟩,
    ⟨(some 14), .call ⟨.value (.func 35), #[(.tmp 12), (.tmp 13)], #[24, 3]⟩, none⟩,
    ⟨(some 6), .assign (.tmp 14), none⟩] [0, 6])
  (.seq (.seq (.reg [⟨(some 15), .move (.tmp 0), none⟩,
    ⟨(some 16), .call ⟨.value (.func 30), #[(.tmp 15)], #[24]⟩, none⟩,
    ⟨(some 17), .unOp .not 4 (.tmp 16), none⟩,
    ⟨(some 18), .move (.tmp 17), none⟩,
    ⟨(some 19), .move (.tmp 6), (some (some 18, false))⟩,
    ⟨(some 20), .binOp .lss 3 (.tmp 19) (.const (.int .i64 0)) 3, (some (some 18, false))⟩,
    ⟨(some 21), .pick (.tmp 18) (.const (.bool true)) (.tmp 20), none⟩] [0, 6, 21])
  (.cond (.tmp 21) (.seq (.reg [⟨(some 4), .assign (.const (.slice none 0 0)), none⟩,
    ⟨(some 5), .assign (.const (.bool false)), none⟩] [4, 5])
  .ret)
  .skip))
  (.seq (.reg [⟨(some 7), .assign (.const (.slice none 0 0)), none⟩] [0, 6, 7])
  (.seq (.seq (.reg [⟨(some 8), .assign (.const (.int .i64 (-20))), none⟩] [0, 6, 7, 8])
  (.block 0 (.loop impl_UniqueTones_l1)))
  (.seq (.reg [⟨(some 46), .move (.tmp 7), none⟩,
    ⟨(some 4), .assign (.tmp 46), none⟩,
    ⟨(some 5), .assign (.const (.bool true)), none⟩] [4, 5])
  .ret))))))
theorem impl_UniqueTones_k : fnOk Tryd.prog (fun _ => false) 13 = some (impl_UniqueTones_c.strip, 47, [.tmp 4, .tmp 5]) := by kernel_rfl
/-- head: [0, 6, 7, 8, 9, 10] -/
def spec_UniqueTones_l0 : ACode := (.seq (.seq (.reg [⟨(some 49), .move (.tmp 10), none⟩,
    ⟨(some 50), .move (.tmp 0), none⟩,
    ⟨(some 51), .call ⟨.builtin .len, #[(.tmp 50)], #[24]⟩, none⟩,
    ⟨(some 52), .binOp .lss 3 (.tmp 49) (.tmp 51) 3, none⟩] [0, 6, 7, 8, 9, 10, 52])
  (.cond (.tmp 52) .skip
  (.exit 2)))
  (.seq (.block 3 (.seq (.reg [⟨(some 55), .move (.tmp 0), none⟩,
    ⟨(some 56), .move (.tmp 10), none⟩,
    ⟨(some 57), .indexAddr 24 (.tmp 55) (.tmp 56), none⟩,
    ⟨(some 58), .load 34 (.tmp 57), none⟩,
    ⟨(some 59), .move (.tmp 8), none⟩,
    ⟨(some 60), .call ⟨.value (.func 38), #[(.tmp 58), (.tmp 59)], #[34, 3]⟩, none⟩] [0, 6, 7, 8, 9, 10, 60])
  (.cond (.tmp 60) (.reg [⟨(some 61), .move (.tmp 9), none⟩,
    ⟨(some 62), .binOp .add 3 (.tmp 61) (.const (.int .i64 1)) 3, none⟩,
    ⟨(some 9), .assign (.tmp 62), none⟩] [0, 6, 7, 8, 9, 10])
  .skip)))
  (.reg [⟨(some 53), .move (.tmp 10), none⟩,
    ⟨(some 54), .binOp .add 3 (.tmp 53) (.const (.int .i64 1)) 3, none⟩,
    ⟨(some 10), .assign (.tmp 54), none⟩] [0, 6, 7, 8, 9, 10])))
/-- head: [0, 6, 7, 8] -/
def spec_UniqueTones_l1 : ACode := (.seq (.seq (.regQ [⟨(some 34), .move (.tmp 8), none⟩,
    ⟨(some 35), .move (.tmp 0), none⟩,
    ⟨(some 36), .move (.tmp 7), none⟩,
    ⟨(some 37), .indexAddr 24 (.tmp 35) (.tmp 36), none⟩,
    ⟨(some 38), .fieldAddr 34 (.tmp 37) 3, none⟩,
    ⟨(some 39), .load 3 (.tmp 38), none⟩,
    ⟨(some 40), .move (.tmp 0), none⟩,
    ⟨(some 41), .move (.tmp 7), none⟩,
    ⟨(some 42), .indexAddr 24 (.tmp 40) (.tmp 41), none⟩,
    ⟨(some 43), .fieldAddr 34 (.tmp 42) 4, none⟩,
    ⟨(some 44), .load 3 (.tmp 43), none⟩,
    ⟨(some 45), .binOp .add 3 (.tmp 39) (.tmp 44) 3, none⟩,
    ⟨(some 46), .binOp .leq 3 (.tmp 34) (.tmp 45) 3, none⟩] [0, 6, 7, 8, 46])
  (.cond (.tmp 46) .skip
  (.exit 0)))
  (.seq (.block 1 (.seq (.reg [⟨(some 9), .assign (.const (.int .i64 0)), none⟩] [0, 6, 7, 8, 9])
  (.seq (.seq (.reg [⟨(some 10), .assign (.const (.int .i64 0)), none⟩] [0, 6, 7, 8, 9, 10])
  (.block 2 (.loop spec_UniqueTones_l0)))
  (.seq (.reg [⟨(some 63), .move (.tmp 9), none⟩,
    ⟨(some 64), .binOp .eql 3 (.tmp 63) (.const (.int .i64 1)) 3, none⟩] [0, 6, 7, 8, 64])
  (.cond (.tmp 64) (.reg [⟨(some 65), .move (.tmp 6), none⟩,
    ⟨(some 66), .move (.tmp 8), none⟩,
    ⟨(some 67), .buildSlice 37 1 #[(0, (.tmp 66))], none⟩,
    ⟨(some 68), .call ⟨.builtin .append, #[(.tmp 65), (.tmp 67)], #[37, 37]⟩, none⟩,
    ⟨(some 6), .assign (.tmp 68), none⟩] [0, 6, 7, 8])
  .skip)))))
  (.reg [⟨(some 47), .move (.tmp 8), none⟩,
    ⟨(some 48), .binOp .add 3 (.tmp 47) (.const (.int .i64 1)) 3, none⟩,
    ⟨(some 8), .assign (.tmp 48), none⟩] [0, 6, 7, 8])))
/-- loop.example/g01062/spec.UniqueTones: number 14, params [0, 1] -/
def spec_UniqueTones_c : ACode := (.seq (.reg [⟨(some 4), .assign (.const (.slice none 0 0)), none⟩,
    ⟨(some 5), .assign (.const (.bool false)), none⟩] [0, 1])
  (.seq (.reg [⟨(some 11), .buildSlice 37 0 #[], none⟩,
    ⟨(some 6), .assign (.tmp 11), none⟩] [0, 1, 6])
  (.seq (.reg [⟨(some 12), .move (.tmp 0), none⟩,
    ⟨(some 13), .move (.tmp 1), none⟩,
    ⟨(some 14), .call ⟨.value (.func 37), #[(.tmp 12), (.tmp 13)], #[24, 3]⟩, none⟩,
    ⟨(some 7), .assign (.tmp 14), none⟩] [0, 6, 7])
  (.seq (.seq (.reg [⟨(some 15), .move (.tmp 0), none⟩,
    ⟨(some 16), .call ⟨.value (.func 32), #[(.tmp 15)], #[24]⟩, none⟩,
    ⟨(some 17), .unOp .not 4 (.tmp 16), none⟩,
    ⟨(some 18), .move (.tmp 17), none⟩,
    ⟨(some 19), .move (.tmp 7), (some (some 18, false))⟩,
    ⟨(some 20), .binOp .lss 3 (.tmp 19) (.const (.int .i64 0)) 3, (some (some 18, false))⟩,
    ⟨(some 21), .pick (.tmp 18) (.const (.bool true)) (.tmp 20), none⟩] [0, 6, 7, 21])
  (.cond (.tmp 21) (.seq (.reg [⟨(some 22), .move (.tmp 6), none⟩,
    ⟨(some 4), .assign (.tmp 22), none⟩,
    ⟨(some 5), .assign (.const (.bool false)), none⟩] [4, 5])
  .ret)
  .skip))
  (.seq (.seq (.regQ [⟨(some 23), .move (.tmp 0), none⟩,
    ⟨(some 24), .move (.tmp 7), none⟩,
    ⟨(some 25), .indexAddr 24 (.tmp 23) (.tmp 24), none⟩,
    ⟨(some 26), .fieldAddr 34 (.tmp 25) 3, none⟩,
    ⟨(some 27), .load 3 (.tmp 26), none⟩,
    ⟨(some 28), .move (.tmp 0), none⟩,
    ⟨(some 29), .move (.tmp 7), none⟩,
    ⟨(some 30), .indexAddr 24 (.tmp 28) (.tmp 29), none⟩,
    ⟨(some 31), .fieldAddr 34 (.tmp 30) 4, none⟩,
    ⟨(some 32), .load 3 (.tmp 31), none⟩,
    ⟨(some 33), .binOp .sub 3 (.tmp 27) (.tmp 32) 3, none⟩,
    ⟨(some 8), .assign (.tmp 33), none⟩] [0, 6, 7, 8])
  (.block 0 (.loop spec_UniqueTones_l1)))
  (.seq (.reg [⟨(some 69), .move (.tmp 6), none⟩,
    ⟨(some 4), .assign (.tmp 69), none⟩,
    ⟨(some 5), .assign (.const (.bool true)), none⟩] [4, 5])
  .ret))))))
theorem spec_UniqueTones_k : fnOk Tryd.prog (fun _ => false) 14 = some (spec_UniqueTones_c.strip, 70, [.tmp 4, .tmp 5]) := by kernel_rfl
/-- head: [0, 1, 5] -/
def laws_rInts_l0 : ACode := (.seq (.seq (.reg [⟨(some 11), .move (.tmp 5), none⟩,
    ⟨(some 12), .move (.tmp 0), none⟩,
    ⟨(some 13), .call ⟨.builtin .len, #[(.tmp 12)], #[37]⟩, none⟩,
    ⟨(some 14), .binOp .lss 3 (.tmp 11) (.tmp 13) 3, none⟩] [0, 1, 5, 14])
  (.cond (.tmp 14) .skip
  (.exit 0)))
  (.seq (.block 1 (.seq (.regQ [⟨(some 17), .move (.tmp 0), none⟩,
    ⟨(some 18), .move (.tmp 5), none⟩,
    ⟨(some 19), .indexAddr 37 (.tmp 17) (.tmp 18), none⟩,
    ⟨(some 20), .load 3 (.tmp 19), none⟩,
    ⟨(some 21), .move (.tmp 1), none⟩,
    ⟨(some 22), .move (.tmp 5), none⟩,
    ⟨(some 23), .indexAddr 37 (.tmp 21) (.tmp 22), none⟩,
    ⟨(some 24), .load 3 (.tmp 23), none⟩,
    ⟨(some 25), .binOp .neq 3 (.tmp 20) (.tmp 24) 3, none⟩] [0, 1, 5, 25])
  (.cond (.tmp 25) (.seq (.reg [⟨(some 4), .assign (.const (.bool false)), none⟩] [4])
  .ret)
  .skip)))
  (.reg [⟨(some 15), .move (.tmp 5), none⟩,
    ⟨(some 16), .binOp .add 3 (.tmp 15) (.const (.int .i64 1)) 3, none⟩,
    ⟨(some 5), .assign (.tmp 16), none⟩] [0, 1, 5])))
/-- loop.example/g01062/laws.rInts: number 15, params [0, 1] -/
def laws_rInts_c : ACode := (.seq (.reg [⟨(some 4), .assign (.const (.bool false)), none⟩] [0, 1])
  (.seq (.seq (.reg [⟨(some 6), .move (.tmp 0), none⟩,
    ⟨(some 7), .call ⟨.builtin .len, #[(.tmp 6)], #[37]⟩, none⟩,
    ⟨(some 8), .move (.tmp 1), none⟩,
    ⟨(some 9), .call ⟨.builtin .len, #[(.tmp 8)], #[37]⟩, none⟩,
    ⟨(some 10), .binOp .neq 3 (.tmp 7) (.tmp 9) 3, none⟩] [0, 1, 10])
  (.cond (.tmp 10) (.seq (.reg [⟨(some 4), .assign (.const (.bool false)), none⟩] [4])
  .ret)
  .skip))
  (.seq (.seq (.reg [⟨(some 5), .assign (.const (.int .i64 0)), none⟩] [0, 1, 5])
  (.block 0 (.loop laws_rInts_l0)))
  (.seq (.reg [⟨(some 4), .assign (.const (.bool true)), none⟩] [4])
  .ret))))
theorem laws_rInts_k : fnOk Tryd.prog (fun _ => false) 15 = some (laws_rInts_c.strip, 26, [.tmp 4]) := by kernel_rfl
/-- head: [1, 2, 8, 24, 25, 26] -/
def impl_CanBeOf_l0 : ACode := (.seq (.reg [⟨(some 27), .binOp .lss 3 (.tmp 26) (.tmp 25) 3, none⟩] [1, 2, 8, 24, 25, 26, 27])
  (.seq (.cond (.tmp 27) .skip
  (.exit 0))
  (.seq (.block 1 (.seq (.reg [⟨(some 28), .indexAddr 24 (.tmp 24) (.tmp 26), none⟩,
    ⟨(some 29), .load 34 (.tmp 28), none⟩,
    ⟨(some 10), .alloc 34, none⟩,
    ⟨none, .store 34 (.tmp 10) (.tmp 29), none⟩] [1, 2, 8, 10, 24, 25, 26])
  (.seq (.reg [⟨(some 30), .load 34 (.tmp 10), none⟩,
    ⟨(some 31), .move (.tmp 1), none⟩,
    ⟨(some 32), .move (.tmp 2), none⟩,
    ⟨(some 33), .call ⟨.value (.func 40), #[(.tmp 30), (.tmp 31), (.tmp 32)], #[34, 3, 3]⟩, none⟩] [1, 2, 8, 10, 24, 25, 26, 33])
  (.cond (.tmp 33) (.reg [⟨(some 34), .move (.tmp 8), none⟩,
    ⟨(some 35), .fieldAddr 34 (.tmp 10) 0, none⟩,
    ⟨(some 36), .load 3 (.tmp 35), none⟩,
    ⟨(some 37), .buildSlice 37 1 #[(0, (.tmp 36))], none⟩,
    ⟨(some 38), .call ⟨.builtin .append, #[(.tmp 34), (.tmp 37)], #[37, 37]⟩, none⟩,
    ⟨(some 8), .assign (.tmp 38), none⟩] [1, 2, 8, 24, 25, 26])
  .skip))))
  (.reg [⟨(some 39), .binOp .add 3 (.tmp 26) (.const (.int .i64 1)) 3, none⟩,
    ⟨(some 26), .move (.tmp 39), none⟩] [1, 2, 8, 24, 25, 26]))))
/-- loop.example/g01062/impl.CanBeOf: number 16, params [0, 1, 2] -/
def impl_CanBeOf_c : ACode := (.seq (.reg [⟨(some 6), .assign (.const (.slice none 0 0)), none⟩,
    ⟨(some 7), .assign (.const (.bool false)), none⟩] [0, 1, 2])
  (.seq (.seq (.reg [⟨(some 11), .move (.tmp 0), none⟩,
    ⟨(some 12), .call ⟨.value (.func 30), #[(.tmp 11)], #[24]⟩, none⟩,
    ⟨(some 13), .unOp .not 4 (.tmp 12), none⟩,
    ⟨(some 14), .move (.tmp 13), none⟩,
    ⟨(some 15), .move (.tmp 1), (some (some 14, false))⟩,
    ⟨(some 16), .call ⟨.value (.func 33), #[(.tmp 15)], #[3]⟩, (some (some 14, false))⟩,
    ⟨(some 17), .unOp .not 4 (.tmp 16), (some (some 14, false))⟩,
    ⟨(some 18), .pick (.tmp 14) (.const (.bool true)) (.tmp 17), none⟩,
    ⟨(some 19), .move (.tmp 18), none⟩,
    ⟨(some 20), .move (.tmp 2), (some (some 19, false))⟩,
    ⟨(some 21), .call ⟨.value (.func 39), #[(.tmp 20)], #[3]⟩, (some (some 19, false))⟩,
    ⟨(some 22), .unOp .not 4 (.tmp 21), (some (some 19, false))⟩,
    ⟨(some 23), .pick (.tmp 19) (.const (.bool true)) (.tmp 22), none⟩] [0, 1, 2, 23])
  (.cond (.tmp 23) (.seq (.reg [⟨(some 6), .assign (.const (.slice none 0 0)), none⟩,
    ⟨(some 7), .assign (.const (.bool false)), none⟩] [6, 7])
  .ret)
  .skip))
  (.seq (.reg [⟨(some 8), .assign (.const (.slice none 0 0)), none⟩] [0, 1, 2, 8])
  (.seq (.seq (.reg [⟨(some 24), .move (.tmp 0), none⟩,
    ⟨(some 25), .call ⟨.builtin .len, #[(.tmp 24)], #[24]⟩, none⟩,
    ⟨(some 26), .move (.const (.int .i64 0)), none⟩] [1, 2, 8, 24, 25, 26])
  (.block 0 (.loop impl_CanBeOf_l0)))
  (.seq (.reg [⟨(some 40), .move (.tmp 8), none⟩,
    ⟨(some 6), .assign (.tmp 40), none⟩,
    ⟨(some 7), .assign (.const (.bool true)), none⟩] [6, 7])
  .ret)))))
theorem impl_CanBeOf_k : fnOk Tryd.prog (fun _ => false) 16 = some (impl_CanBeOf_c.strip, 41, [.tmp 6, .tmp 7]) := by kernel_rfl
/-- head: [1, 2, 8, 24, 25, 26] -/
def impl_StampsUntil_l0 : ACode := (.seq (.reg [⟨(some 27), .binOp .lss 3 (.tmp 26) (.tmp 25) 3, none⟩] [1, 2, 8, 24, 25, 26, 27])
  (.seq (.cond (.tmp 27) .skip
  (.exit 0))
  (.seq (.block 1 (.seq (.reg [⟨(some 28), .indexAddr 24 (.tmp 24) (.tmp 26), none⟩,
    ⟨(some 29), .load 34 (.tmp 28), none⟩,
    ⟨(some 10), .alloc 34, none⟩,
    ⟨none, .store 34 (.tmp 10) (.tmp 29), none⟩] [1, 2, 8, 10, 24, 25, 26])
  (.seq (.reg [⟨(some 30), .move (.tmp 8), none⟩,
    ⟨(some 31), .move (.tmp 1), none⟩,
    ⟨(some 32), .fieldAddr 34 (.tmp 10) 2, none⟩,
    ⟨(some 33), .load 3 (.tmp 32), none⟩,
    ⟨(some 34), .binOp .mul 3 (.tmp 31) (.tmp 33) 3, none⟩,
    ⟨(some 35), .binOp .add 3 (.tmp 30) (.tmp 34) 3, none⟩,
    ⟨(some 8), .assign (.tmp 35), none⟩] [1, 2, 8, 10, 24, 25, 26])
  (.seq (.reg [⟨(some 36), .move (.tmp 8), none⟩,
    ⟨(some 37), .move (.tmp 2), none⟩,
    ⟨(some 38), .binOp .geq 3 (.tmp 36) (.tmp 37) 3, none⟩] [1, 2, 8, 10, 24, 25, 26, 38])
  (.cond (.tmp 38) (.seq (.reg [⟨(some 39), .fieldAddr 34 (.tmp 10) 0, none⟩,
    ⟨(some 40), .load 3 (.tmp 39), none⟩,
    ⟨(some 6), .assign (.tmp 40), none⟩,
    ⟨(some 7), .assign (.const (.bool true)), none⟩] [6, 7])
  .ret)
  .skip)))))
  (.reg [⟨(some 41), .binOp .add 3 (.tmp 26) (.const (.int .i64 1)) 3, none⟩,
    ⟨(some 26), .move (.tmp 41), none⟩] [1, 2, 8, 24, 25, 26]))))
/-- loop.example/g01062/impl.StampsUntil: number 18, params [0, 1, 2] -/
def impl_StampsUntil_c : ACode := (.seq (.reg [⟨(some 6), .assign (.const (.int .i64 0)), none⟩,
    ⟨(some 7), .assign (.const (.bool false)), none⟩] [0, 1, 2])
  (.seq (.seq (.reg [⟨(some 11), .move (.tmp 0), none⟩,
    ⟨(some 12), .call ⟨.value (.func 30), #[(.tmp 11)], #[24]⟩, none⟩,
    ⟨(some 13), .unOp .not 4 (.tmp 12), none⟩,
    ⟨(some 14), .move (.tmp 13), none⟩,
    ⟨(some 15), .move (.tmp 1), (some (some 14, false))⟩,
    ⟨(some 16), .call ⟨.value (.func 45), #[(.tmp 15), (.const (.int .i64 1)), (.const (.int .i64 400))], #[3, 3, 3]⟩, (some (some 14, false))⟩,
    ⟨(some 17), .unOp .not 4 (.tmp 16), (some (some 14, false))⟩,
    ⟨(some 18), .pick (.tmp 14) (.const (.bool true)) (.tmp 17), none⟩,
    ⟨(some 19), .move (.tmp 18), none⟩,
    ⟨(some 20), .move (.tmp 2), (some (some 19, false))⟩,
    ⟨(some 21), .call ⟨.value (.func 45), #[(.tmp 20), (.const (.int .i64 1)), (.const (.int .i64 50000000))], #[3, 3, 3]⟩, (some (some 19, false))⟩,
    ⟨(some 22), .unOp .not 4 (.tmp 21), (some (some 19, false))⟩,
    ⟨(some 23), .pick (.tmp 19) (.const (.bool true)) (.tmp 22), none⟩] [0, 1, 2, 23])
  (.cond (.tmp 23) (.seq (.reg [⟨(some 6), .assign (.const (.int .i64 0)), none⟩,
    ⟨(some 7), .assign (.const (.bool false)), none⟩] [6, 7])
  .ret)
  .skip))
  (.seq (.reg [⟨(some 8), .assign (.const (.int .i64 0)), none⟩] [0, 1, 2, 8])
  (.seq (.seq (.reg [⟨(some 24), .move (.tmp 0), none⟩,
    ⟨(some 25), .call ⟨.builtin .len, #[(.tmp 24)], #[24]⟩, none⟩,
    ⟨(some 26), .move (.const (.int .i64 0)), none⟩] [1, 2, 8, 24, 25, 26])
  (.block 0 (.loop impl_StampsUntil_l0)))
  (.seq (.reg [⟨(some 6), .assign (.const (.int .i64 0)), none⟩,
    ⟨(some 7), .assign (.const (.bool false)), none⟩] [6, 7])
  .ret)))))
theorem impl_StampsUntil_k : fnOk Tryd.prog (fun _ => false) 18 = some (impl_StampsUntil_c.strip, 42, [.tmp 6, .tmp 7]) := by kernel_rfl
/-- head: [0, 1, 2, 8, 9] -/
def spec_StampsUntil_l0 : ACode := (.seq (.seq (.reg [⟨(some 23), .move (.tmp 9), none⟩,
    ⟨(some 24), .move (.tmp 0), none⟩,
    ⟨(some 25), .call ⟨.builtin .len, #[(.tmp 24)], #[24]⟩, none⟩,
    ⟨(some 26), .binOp .lss 3 (.tmp 23) (.tmp 25) 3, none⟩] [0, 1, 2, 8, 9, 26])
  (.cond (.tmp 26) .skip
  (.exit 0)))
  (.seq (.block 1 (.seq (.reg [⟨(some 29), .move (.tmp 8), none⟩,
    ⟨(some 30), .move (.tmp 0), none⟩,
    ⟨(some 31), .move (.tmp 9), none⟩,
    ⟨(some 32), .indexAddr 24 (.tmp 30) (.tmp 31), none⟩,
    ⟨(some 33), .fieldAddr 34 (.tmp 32) 2, none⟩,
    ⟨(some 34), .load 3 (.tmp 33), none⟩,
    ⟨(some 35), .move (.tmp 1), none⟩,
    ⟨(some 36), .binOp .mul 3 (.tmp 34) (.tmp 35) 3, none⟩,
    ⟨(some 37), .binOp .add 3 (.tmp 29) (.tmp 36) 3, none⟩,
    ⟨(some 8), .assign (.tmp 37), none⟩] [0, 1, 2, 8, 9])
  (.seq (.reg [⟨(some 38), .move (.tmp 8), none⟩,
    ⟨(some 39), .move (.tmp 2), none⟩,
    ⟨(some 40), .binOp .geq 3 (.tmp 38) (.tmp 39) 3, none⟩] [0, 1, 2, 8, 9, 40])
  (.cond (.tmp 40) (.seq (.reg [⟨(some 41), .move (.tmp 0), none⟩,
    ⟨(some 42), .move (.tmp 9), none⟩,
    ⟨(some 43), .indexAddr 24 (.tmp 41) (.tmp 42), none⟩,
    ⟨(some 44), .fieldAddr 34 (.tmp 43) 0, none⟩,
    ⟨(some 45), .load 3 (.tmp 44), none⟩,
    ⟨(some 6), .assign (.tmp 45), none⟩,
    ⟨(some 7), .assign (.const (.bool true)), none⟩] [6, 7])
  .ret)
  .skip))))
  (.reg [⟨(some 27), .move (.tmp 9), none⟩,
    ⟨(some 28), .binOp .add 3 (.tmp 27) (.const (.int .i64 1)) 3, none⟩,
    ⟨(some 9), .assign (.tmp 28), none⟩] [0, 1, 2, 8, 9])))
/-- loop.example/g01062/spec.StampsUntil: number 19, params [0, 1, 2] -/
def spec_StampsUntil_c : ACode := (.seq (.reg [⟨(some 6), .assign (.const (.int .i64 0)), none⟩,
    ⟨(some 7), .assign (.const (.bool false)), none⟩] [0, 1, 2])
  (.seq (.seq (.reg [⟨(some 10), .move (.tmp 0), none⟩,
    ⟨(some 11), .call ⟨.value (.func 32), #[(.tmp 10)], #[24]⟩, none⟩,
    ⟨(some 12), .unOp .not 4 (.tmp 11), none⟩,
    ⟨(some 13), .move (.tmp 12), none⟩,
    ⟨(some 14), .move (.tmp 1), (some (some 13, false))⟩,
    ⟨(some 15), .call ⟨.value (.func 46), #[(.tmp 14), (.const (.int .i64 1)), (.const (.int .i64 400))], #[3, 3, 3]⟩, (some (some 13, false))⟩,
    ⟨(some 16), .unOp .not 4 (.tmp 15), (some (some 13, false))⟩,
    ⟨(some 17), .pick (.tmp 13) (.const (.bool true)) (.tmp 16), none⟩,
    ⟨(some 18), .move (.tmp 17), none⟩,
    ⟨(some 19), .move (.tmp 2), (some (some 18, false))⟩,
    ⟨(some 20), .call ⟨.value (.func 46), #[(.tmp 19), (.const (.int .i64 1)), (.const (.int .i64 50000000))], #[3, 3, 3]⟩, (some (some 18, false))⟩,
    ⟨(some 21), .unOp .not 4 (.tmp 20), (some (some 18, false))⟩,
    ⟨(some 22), .pick (.tmp 18) (.const (.bool true)) (.tmp 21), none⟩] [0, 1, 2, 22])
  (.cond (.tmp 22) (.seq (.reg [⟨(some 6), .assign (.const (.int .i64 0)), none⟩,
    ⟨(some 7), .assign (.const (.bool false)), none⟩] [6, 7])
  .ret)
  .skip))
  (.seq (.reg [⟨(some 8), .assign (.const (.int .i64 0)), none⟩] [0, 1, 2, 8])
  (.seq (.seq (.reg [⟨(some 9), .assign (.const (.int .i64 0)), none⟩] [0, 1, 2, 8, 9])
  (.block 0 (.loop spec_StampsUntil_l0)))
  (.seq (.reg [⟨(some 6), .assign (.const (.int .i64 0)), none⟩,
    ⟨(some 7), .assign (.const (.bool false)), none⟩] [6, 7])
  .ret)))))
theorem spec_StampsUntil_k : fnOk Tryd.prog (fun _ => false) 19 = some (spec_StampsUntil_c.strip, 46, [.tmp 6, .tmp 7]) := by kernel_rfl
/-- head: [0, 5, 6, 19, 20, 21] -/
def impl_LongestPause_l0 : ACode := (.seq (.reg [⟨(some 22), .binOp .lss 3 (.tmp 21) (.tmp 20) 3, none⟩] [0, 5, 6, 19, 20, 21, 22])
  (.seq (.cond (.tmp 22) .skip
  (.exit 0))
  (.seq (.block 1 (.seq (.reg [⟨(some 23), .move (.tmp 21), none⟩,
    ⟨(some 24), .indexAddr 24 (.tmp 19) (.tmp 21), none⟩,
    ⟨(some 25), .load 34 (.tmp 24), none⟩,
    ⟨(some 8), .alloc 34, none⟩,
    ⟨(some 7), .assign (.tmp 23), none⟩,
    ⟨none, .store 34 (.tmp 8) (.tmp 25), none⟩] [0, 5, 6, 7, 8, 19, 20, 21])
  (.seq (.regQ [⟨(some 26), .fieldAddr 34 (.tmp 8) 1, none⟩,
    ⟨(some 27), .load 3 (.tmp 26), none⟩,
    ⟨(some 28), .move (.tmp 0), none⟩,
    ⟨(some 29), .move (.tmp 7), none⟩,
    ⟨(some 30), .indexAddr 24 (.tmp 28) (.tmp 29), none⟩,
    ⟨(some 31), .fieldAddr 34 (.tmp 30) 1, none⟩,
    ⟨(some 32), .load 3 (.tmp 31), none⟩,
    ⟨(some 33), .binOp .sub 3 (.tmp 27) (.tmp 32) 3, none⟩,
    ⟨(some 9), .assign (.tmp 33), none⟩] [0, 5, 6, 8, 9, 19, 20, 21])
  (.seq (.reg [⟨(some 34), .move (.tmp 9), none⟩,
    ⟨(some 35), .move (.tmp 6), none⟩,
    ⟨(some 36), .binOp .gtr 3 (.tmp 34) (.tmp 35) 3, none⟩] [0, 5, 6, 8, 9, 19, 20, 21, 36])
  (.cond (.tmp 36) (.reg [⟨(some 37), .fieldAddr 34 (.tmp 8) 0, none⟩,
    ⟨(some 38), .load 3 (.tmp 37), none⟩,
    ⟨(some 39), .move (.tmp 9), none⟩,
    ⟨(some 5), .assign (.tmp 38), none⟩,
    ⟨(some 6), .assign (.tmp 39), none⟩] [0, 5, 6, 19, 20, 21])
  .skip)))))
  (.reg [⟨(some 40), .binOp .add 3 (.tmp 21) (.const (.int .i64 1)) 3, none⟩,
    ⟨(some 21), .move (.tmp 40), none⟩] [0, 5, 6, 19, 20, 21]))))
/-- loop.example/g01062/impl.LongestPause: number 20, params [0] -/
def impl_LongestPause_c : ACode := (.seq (.reg [⟨(some 2), .assign (.const (.int .i64 0)), none⟩,
    ⟨(some 3), .assign (.const (.int .i64 0)), none⟩,
    ⟨(some 4), .assign (.const (.bool false)), none⟩] [0])
  (.seq (.seq (.reg [⟨(some 10), .move (.tmp 0), none⟩,
    ⟨(some 11), .call ⟨.value (.func 30), #[(.tmp 10)], #[24]⟩, none⟩,
    ⟨(some 12), .unOp .not 4 (.tmp 11), none⟩,
    ⟨(some 13), .move (.tmp 12), none⟩,
    ⟨(some 14), .move (.tmp 0), (some (some 13, false))⟩,
    ⟨(some 15), .call ⟨.builtin .len, #[(.tmp 14)], #[24]⟩, (some (some 13, false))⟩,
    ⟨(some 16), .binOp .lss 3 (.tmp 15) (.const (.int .i64 2)) 3, (some (some 13, false))⟩,
    ⟨(some 17), .pick (.tmp 13) (.const (.bool true)) (.tmp 16), none⟩] [0, 17])
  (.cond (.tmp 17) (.seq (.reg [⟨(some 2), .assign (.const (.int .i64 0)), none⟩,
    ⟨(some 3), .assign (.const (.int .i64 0)), none⟩,
    ⟨(some 4), .assign (.const (.bool false)), none⟩] [2, 3, 4])
  .ret)
  .skip))
  (.seq (.reg [⟨(some 5), .assign (.const (.int .i64 0)), none⟩,
    ⟨(some 6), .assign (.const (.int .i64 0)), none⟩] [0, 5, 6])
  (.seq (.seq (.reg [⟨(some 18), .move (.tmp 0), none⟩,
    ⟨(some 19), .slice 24 (.tmp 18) (some (.const (.int .i64 1))) none none, none⟩,
    ⟨(some 20), .call ⟨.builtin .len, #[(.tmp 19)], #[24]⟩, none⟩,
    ⟨(some 21), .move (.const (.int .i64 0)), none⟩] [0, 5, 6, 19, 20, 21])
  (.block 0 (.loop impl_LongestPause_l0)))
  (.seq (.reg [⟨(some 41), .move (.tmp 5), none⟩,
    ⟨(some 42), .move (.tmp 6), none⟩,
    ⟨(some 2), .assign (.tmp 41), none⟩,
    ⟨(some 3), .assign (.tmp 42), none⟩,
    ⟨(some 4), .assign (.const (.bool true)), none⟩] [2, 3, 4])
  .ret)))))
theorem impl_LongestPause_k : fnOk Tryd.prog (fun _ => false) 20 = some (impl_LongestPause_c.strip, 43, [.tmp 2, .tmp 3, .tmp 4]) := by kernel_rfl
/-- head: [0, 5, 6, 7] -/
def spec_LongestPause_l0 : ACode := (.seq (.seq (.reg [⟨(some 17), .move (.tmp 7), none⟩,
    ⟨(some 18), .move (.tmp 0), none⟩,
    ⟨(some 19), .call ⟨.builtin .len, #[(.tmp 18)], #[24]⟩, none⟩,
    ⟨(some 20), .binOp .lss 3 (.tmp 17) (.tmp 19) 3, none⟩] [0, 5, 6, 7, 20])
  (.cond (.tmp 20) .skip
  (.exit 0)))
  (.seq (.block 1 (.seq (.regQ [⟨(some 23), .move (.tmp 0), none⟩,
    ⟨(some 24), .move (.tmp 7), none⟩,
    ⟨(some 25), .indexAddr 24 (.tmp 23) (.tmp 24), none⟩,
    ⟨(some 26), .fieldAddr 34 (.tmp 25) 1, none⟩,
    ⟨(some 27), .load 3 (.tmp 26), none⟩,
    ⟨(some 28), .move (.tmp 0), none⟩,
    ⟨(some 29), .move (.tmp 7), none⟩,
    ⟨(some 30), .binOp .sub 3 (.tmp 29) (.const (.int .i64 1)) 3, none⟩,
    ⟨(some 31), .indexAddr 24 (.tmp 28) (.tmp 30), none⟩,
    ⟨(some 32), .fieldAddr 34 (.tmp 31) 1, none⟩,
    ⟨(some 33), .load 3 (.tmp 32), none⟩,
    ⟨(some 34), .binOp .sub 3 (.tmp 27) (.tmp 33) 3, none⟩,
    ⟨(some 8), .assign (.tmp 34), none⟩] [0, 5, 6, 7, 8])
  (.seq (.reg [⟨(some 35), .move (.tmp 8), none⟩,
    ⟨(some 36), .move (.tmp 6), none⟩,
    ⟨(some 37), .binOp .gtr 3 (.tmp 35) (.tmp 36) 3, none⟩] [0, 5, 6, 7, 8, 37])
  (.cond (.tmp 37) (.seq (.reg [⟨(some 38), .move (.tmp 0), none⟩,
    ⟨(some 39), .move (.tmp 7), none⟩,
    ⟨(some 40), .indexAddr 24 (.tmp 38) (.tmp 39), none⟩,
    ⟨(some 41), .fieldAddr 34 (.tmp 40) 0, none⟩,
    ⟨(some 42), .load 3 (.tmp 41), none⟩,
    ⟨(some 5), .assign (.tmp 42), none⟩] [0, 5, 7, 8])
  (.reg [⟨(some 43), .move (.tmp 8), none⟩,
    ⟨(some 6), .assign (.tmp 43), none⟩] [0, 5, 6, 7]))
  .skip))))
  (.reg [⟨(some 21), .move (.tmp 7), none⟩,
    ⟨(some 22), .binOp .add 3 (.tmp 21) (.const (.int .i64 1)) 3, none⟩,
    ⟨(some 7), .assign (.tmp 22), none⟩] [0, 5, 6, 7])))
/-- loop.example/g01062/spec.LongestPause: number 21, params [0] -/
def spec_LongestPause_c : ACode := (.seq (.reg [⟨(some 2), .assign (.const (.int .i64 0)), none⟩,
    ⟨(some 3), .assign (.const (.int .i64 0)), none⟩,
    ⟨(some 4), .assign (.const (.bool false)), none⟩] [0])
  (.seq (.seq (.reg [⟨(some 9), .move (.tmp 0), none⟩,
    ⟨(some 10), .call ⟨.value (.func 32), #[(.tmp 9)], #[24]⟩, none⟩,
    ⟨(some 11), .unOp .not 4 (.tmp 10), none⟩,
    ⟨(some 12), .move (.tmp 11), none⟩,
    ⟨(some 13), .move (.tmp 0), (some (some 12, false))⟩,
    ⟨(some 14), .call ⟨.builtin .len, #[(.tmp 13)], #[24]⟩, (some (some 12, false))⟩,
    ⟨(some 15), .binOp .lss 3 (.tmp 14) (.const (.int .i64 2)) 3, (some (some 12, false))⟩,
    ⟨(some 16), .pick (.tmp 12) (.const (.bool true)) (.tmp 15), none⟩] [0, 16])
  (.cond (.tmp 16) (.seq (.reg [⟨(some 2), .assign (.const (.int .i64 0)), none⟩,
    ⟨(some 3), .assign (.const (.int .i64 0)), none⟩,
    ⟨(some 4), .assign (.const (.bool false)), none⟩] [2, 3, 4])
  .ret)
  .skip))
  (.seq (.reg [⟨(some 5), .assign (.const (.int .i64 0)), none⟩,
    ⟨(some 6), .assign (.const (.int .i64 0)), none⟩] [0, 5, 6])
  (.seq (.seq (.reg [⟨(some 7), .assign (.const (.int .i64 1)), none⟩] [0, 5, 6, 7])
  (.block 0 (.loop spec_LongestPause_l0)))
  (.seq (.reg [⟨(some 44), .move (.tmp 5), none⟩,
    ⟨(some 45), .move (.tmp 6), none⟩,
    ⟨(some 2), .assign (.tmp 44), none⟩,
    ⟨(some 3), .assign (.tmp 45), none⟩,
    ⟨(some 4), .assign (.const (.bool true)), none⟩] [2, 3, 4])
  .ret)))))
theorem spec_LongestPause_k : fnOk Tryd.prog (fun _ => false) 21 = some (spec_LongestPause_c.strip, 46, [.tmp 2, .tmp 3, .tmp 4]) := by kernel_rfl
/-- loop.example/g01062/impl.PrintingText: number 23, params [0] -/
def impl_PrintingText_c : ACode := (.seq (.reg [⟨(some 1), .box 34 (.tmp 0), none⟩,
    ⟨(some 2), .assign (.const (.string ⟨#[]⟩)), none⟩,
    ⟨(some 3), .assign (.const (.bool false)), none⟩] [1])
  (.seq (.seq (.reg [⟨(some 5), .load 34 (.tmp 1), none⟩,
    ⟨(some 6), .call ⟨.value (.func 47), #[(.tmp 5)], #[34]⟩, none⟩,
    ⟨(some 7), .unOp .not 4 (.tmp 6), none⟩] [1, 7])
  (.cond (.tmp 7) (.seq (.reg [⟨(some 2), .assign (.const (.string ⟨#[]⟩)), none⟩,
    ⟨(some 3), .assign (.const (.bool false)), none⟩] [2, 3])
  .ret)
  .skip))
  (.seq (.regQ [⟨(some 8), .fieldAddr 34 (.tmp 1) 0, none⟩,
    ⟨(some 9), .load 3 (.tmp 8), none⟩,
    ⟨(some 10), .call ⟨.value (.func 48), #[(.tmp 9)], #[3]⟩, none⟩,
    ⟨(some 11), .binOp .add 9 (.const (.string ⟨#[110]⟩)) (.tmp 10) 9, none⟩,
    ⟨(some 12), .binOp .add 9 (.tmp 11) (.const (.string ⟨#[32, 111, 110, 32]⟩)) 9, none⟩,
    ⟨(some 13), .fieldAddr 34 (.tmp 1) 1, none⟩,
    ⟨(some 14), .load 3 (.tmp 13), none⟩,
    ⟨(some 15), .call ⟨.value (.func 48), #[(.tmp 14)], #[3]⟩, none⟩,
    ⟨(some 16), .binOp .add 9 (.tmp 12) (.tmp 15) 9, none⟩,
    ⟨(some 17), .binOp .add 9 (.tmp 16) (.const (.string ⟨#[58, 32]⟩)) 9, none⟩,
    ⟨(some 18), .fieldAddr 34 (.tmp 1) 2, none⟩,
    ⟨(some 19), .load 3 (.tmp 18), none⟩,
    ⟨(some 20), .call ⟨.value (.func 48), #[(.tmp 19)], #[3]⟩, none⟩,
    ⟨(some 21), .binOp .add 9 (.tmp 17) (.tmp 20) 9, none⟩,
    ⟨(some 22), .binOp .add 9 (.tmp 21) (.const (.string ⟨#[32, 115, 104, 101, 101, 116, 115, 32]⟩)) 9, none⟩,
    ⟨(some 23), .fieldAddr 34 (.tmp 1) 3, none⟩,
    ⟨(some 24), .load 3 (.tmp 23), none⟩,
    ⟨(some 25), .call ⟨.value (.func 48), #[(.tmp 24)], #[3]⟩, none⟩,
    ⟨(some 26), .binOp .add 9 (.tmp 22) (.tmp 25) 9, none⟩,
    ⟨(some 4), .assign (.tmp 26), none⟩] [1, 4])
  (.seq (.seq (.reg [⟨(some 27), .fieldAddr 34 (.tmp 1) 4, none⟩,
    ⟨(some 28), .load 3 (.tmp 27), none⟩,
    ⟨(some 29), .binOp .neq 3 (.tmp 28) (.const (.int .i64 0)) 3, none⟩] [1, 4, 29])
  (.cond (.tmp 29) (.reg [⟨(some 30), .move (.tmp 4), none⟩,
    ⟨(some 31), .fieldAddr 34 (.tmp 1) 4, none⟩,
    ⟨(some 32), .load 3 (.tmp 31), none⟩,
    ⟨(some 33), .call ⟨.value (.func 48), #[(.tmp 32)], #[3]⟩, none⟩,
    ⟨(some 34), .binOp .add 9 (.const (.string ⟨#[43, 45]⟩)) (.tmp 33) 9, none⟩,
    ⟨(some 35), .binOp .add 9 (.tmp 30) (.tmp 34) 9, none⟩,
    ⟨(some 4), .assign (.tmp 35), none⟩] [4])
  .skip))
  (.seq (.reg [⟨(some 36), .move (.tmp 4), none⟩,
    ⟨(some 2), .assign (.tmp 36), none⟩,
    ⟨(some 3), .assign (.const (.bool true)), none⟩] [2, 3])
  .ret)))))
theorem impl_PrintingText_k : fnOk Tryd.prog (fun _ => false) 23 = some (impl_PrintingText_c.strip, 37, [.tmp 2, .tmp 3]) := by kernel_rfl
/-- loop.example/g01062/spec.PrintingText: number 24, params [0] -/
def spec_PrintingText_c : ACode := (.seq (.reg [⟨(some 1), .box 34 (.tmp 0), none⟩,
    ⟨(some 2), .assign (.const (.string ⟨#[]⟩)), none⟩,
    ⟨(some 3), .assign (.const (.bool false)), none⟩] [1])
  (.seq (.seq (.reg [⟨(some 5), .load 34 (.tmp 1), none⟩,
    ⟨(some 6), .call ⟨.value (.func 49), #[(.tmp 5)], #[34]⟩, none⟩,
    ⟨(some 7), .unOp .not 4 (.tmp 6), none⟩] [1, 7])
  (.cond (.tmp 7) (.seq (.reg [⟨(some 2), .assign (.const (.string ⟨#[]⟩)), none⟩,
    ⟨(some 3), .assign (.const (.bool false)), none⟩] [2, 3])
  .ret)
  .skip))
  (.seq (.regQ [⟨(some 8), .fieldAddr 34 (.tmp 1) 0, none⟩,
    ⟨(some 9), .load 3 (.tmp 8), none⟩,
    ⟨(some 10), .call ⟨.value (.func 50), #[(.tmp 9)], #[3]⟩, none⟩,
    ⟨(some 11), .binOp .add 9 (.const (.string ⟨#[110]⟩)) (.tmp 10) 9, none⟩,
    ⟨(some 12), .binOp .add 9 (.tmp 11) (.const (.string ⟨#[32, 111, 110, 32]⟩)) 9, none⟩,
    ⟨(some 13), .fieldAddr 34 (.tmp 1) 1, none⟩,
    ⟨(some 14), .load 3 (.tmp 13), none⟩,
    ⟨(some 15), .call ⟨.value (.func 50), #[(.tmp 14)], #[3]⟩, none⟩,
    ⟨(some 16), .binOp .add 9 (.tmp 12) (.tmp 15) 9, none⟩,
    ⟨(some 17), .binOp .add 9 (.tmp 16) (.const (.string ⟨#[58, 32]⟩)) 9, none⟩,
    ⟨(some 18), .fieldAddr 34 (.tmp 1) 2, none⟩,
    ⟨(some 19), .load 3 (.tmp 18), none⟩,
    ⟨(some 20), .call ⟨.value (.func 50), #[(.tmp 19)], #[3]⟩, none⟩,
    ⟨(some 21), .binOp .add 9 (.tmp 17) (.tmp 20) 9, none⟩,
    ⟨(some 22), .binOp .add 9 (.tmp 21) (.const (.string ⟨#[32, 115, 104, 101, 101, 116, 115, 32]⟩)) 9, none⟩,
    ⟨(some 23), .fieldAddr 34 (.tmp 1) 3, none⟩,
    ⟨(some 24), .load 3 (.tmp 23), none⟩,
    ⟨(some 25), .call ⟨.value (.func 50), #[(.tmp 24)], #[3]⟩, none⟩,
    ⟨(some 26), .binOp .add 9 (.tmp 22) (.tmp 25) 9, none⟩,
    ⟨(some 4), .assign (.tmp 26), none⟩] [1, 4])
  (.seq (.seq (.reg [⟨(some 27), .fieldAddr 34 (.tmp 1) 4, none⟩,
    ⟨(some 28), .load 3 (.tmp 27), none⟩,
    ⟨(some 29), .binOp .gtr 3 (.tmp 28) (.const (.int .i64 0)) 3, none⟩] [1, 4, 29])
  (.cond (.tmp 29) (.reg [⟨(some 30), .move (.tmp 4), none⟩,
    ⟨(some 31), .binOp .add 9 (.tmp 30) (.const (.string ⟨#[43, 45]⟩)) 9, none⟩,
    ⟨(some 32), .fieldAddr 34 (.tmp 1) 4, none⟩,
    ⟨(some 33), .load 3 (.tmp 32), none⟩,
    ⟨(some 34), .call ⟨.value (.func 50), #[(.tmp 33)], #[3]⟩, none⟩,
    ⟨(some 35), .binOp .add 9 (.tmp 31) (.tmp 34) 9, none⟩,
    ⟨(some 4), .assign (.tmp 35), none⟩] [4])
  .skip))
  (.seq (.reg [⟨(some 36), .move (.tmp 4), none⟩,
    ⟨(some 2), .assign (.tmp 36), none⟩,
    ⟨(some 3), .assign (.const (.bool true)), none⟩] [2, 3])
  .ret)))))
theorem spec_PrintingText_k : fnOk Tryd.prog (fun _ => false) 24 = some (spec_PrintingText_c.strip, 37, [.tmp 2, .tmp 3]) := by kernel_rfl
/-- head: [0, 5, 6, 7] -/
def impl_arePrintings_l0 : ACode := (.seq (.reg [⟨(some 8), .binOp .lss 3 (.tmp 7) (.tmp 6) 3, none⟩] [0, 5, 6, 7, 8])
  (.seq (.cond (.tmp 8) .skip
  (.exit 0))
  (.seq (.block 1 (.seq (.reg [⟨(some 9), .move (.tmp 7), none⟩,
    ⟨(some 10), .indexAddr 24 (.tmp 5) (.tmp 7), none⟩,
    ⟨(some 11), .load 34 (.tmp 10), none⟩,
    ⟨(some 4), .alloc 34, none⟩,
    ⟨(some 3), .assign (.tmp 9), none⟩,
    ⟨none, .store 34 (.tmp 4) (.tmp 11), none⟩] [0, 3, 4, 5, 6, 7])
  (.seq (.regQ [⟨(some 12), .load 34 (.tmp 4), none⟩,
    ⟨(some 13), .call ⟨.value (.func 47), #[(.tmp 12)], #[34]⟩, none⟩,
    ⟨(some 14), .unOp .not 4 (.tmp 13), none⟩,
    ⟨(some 15), .move (.tmp 14), none⟩,
    ⟨(some 16), .move (.tmp 3), (some (some 15, false))⟩,
    ⟨(some 17), .binOp .gtr 3 (.tmp 16) (.const (.int .i64 0)) 3, (some (some 15, false))⟩,
    ⟨(some 18), .move (.tmp 17), (some (some 15, false))⟩,
    ⟨(some 19), .move (.tmp 0), (some (some 18, true))⟩,
    ⟨(some 20), .move (.tmp 3), (some (some 18, true))⟩,
    ⟨(some 21), .binOp .sub 3 (.tmp 20) (.const (.int .i64 1)) 3, (some (some 18, true))⟩,
    ⟨(some 22), .indexAddr 24 (.tmp 19) (.tmp 21), (some (some 18, true))⟩,
    ⟨(some 23), .fieldAddr 34 (.tmp 22) 0, (some (some 18, true))⟩,
    ⟨(some 24), .load 3 (.tmp 23), (some (some 18, true))⟩,
    ⟨(some 25), .fieldAddr 34 (.tmp 4) 0, (some (some 18, true))⟩,
    ⟨(some 26), .load 3 (.tmp 25), (some (some 18, true))⟩,
    ⟨(some 27), .binOp .geq 3 (.tmp 24) (.tmp 26) 3, (some (some 18, true))⟩,
    ⟨(some 28), .move (.tmp 27), (some (some 18, true))⟩,
    ⟨(some 29), .move (.tmp 0), (some (some 28, false))⟩,
    ⟨(some 30), .move (.tmp 3), (some (some 28, false))⟩,
    ⟨(some 31), .binOp .sub 3 (.tmp 30) (.const (.int .i64 1)) 3, (some (some 28, false))⟩,
    ⟨(some 32), .indexAddr 24 (.tmp 29) (.tmp 31), (some (some 28, false))⟩,
    ⟨(some 33), .fieldAddr 34 (.tmp 32) 1, (some (some 28, false))⟩,
    ⟨(some 34), .load 3 (.tmp 33), (some (some 28, false))⟩,
    ⟨(some 35), .fieldAddr 34 (.tmp 4) 1, (some (some 28, false))⟩,
    ⟨(some 36), .load 3 (.tmp 35), (some (some 28, false))⟩,
    ⟨(some 37), .binOp .geq 3 (.tmp 34) (.tmp 36) 3, (some (some 28, false))⟩,
    ⟨(some 38), .pick (.tmp 28) (.const (.bool true)) (.tmp 37), (some (some 18, true))⟩,
    ⟨(some 39), .pick (.tmp 18) (.tmp 38) (.const (.bool false)), (some (some 15, false))⟩,
    ⟨(some 40), .pick (.tmp 15) (.const (.bool true)) (.tmp 39), none⟩] [0, 5, 6, 7, 40])
  (.cond (.tmp 40) (.seq (.reg [⟨(some 2), .assign (.const (.bool false)), none⟩] [2])
  .ret)
  .skip))))
  (.reg [⟨(some 41), .binOp .add 3 (.tmp 7) (.const (.int .i64 1)) 3, none⟩,
    ⟨(some 7), .move (.tmp 41), none⟩] [0, 5, 6, 7]))))
/-- loop.example/g01062/impl.arePrintings: number 30, params [0] -/
def impl_arePrintings_c : ACode := (.seq (.reg [⟨(some 2), .assign (.const (.bool false)), none⟩] [0])
  (.seq (.seq (.reg [⟨(some 5), .move (.tmp 0), none⟩,
    ⟨(some 6), .call ⟨.builtin .len, #[(.tmp 5)], #[24]⟩, none⟩,
    ⟨(some 7), .move (.const (.int .i64 0)), none⟩] [0, 5, 6, 7])
  (.block 0 (.loop impl_arePrintings_l0)))
  (.seq (.reg [⟨(some 42), .move (.tmp 0), none⟩,
    ⟨(some 43), .call ⟨.builtin .len, #[(.tmp 42)], #[24]⟩, none⟩,
    ⟨(some 44), .binOp .leq 3 (.tmp 43) (.const (.int .i64 12)) 3, none⟩,
    ⟨(some 2), .assign (.tmp 44), none⟩] [2])
  .ret)))
theorem impl_arePrintings_k : fnOk Tryd.prog (fun _ => false) 30 = some (impl_arePrintings_c.strip, 45, [.tmp 2]) := by kernel_rfl
/-- slices.Clone[[]loop.example/g01062/impl.Printing,loop.example/g01062/impl.Printing]: number 31, params [0] -/
def slices_Clone___impl_Printing_impl_Printing__c : ACode := (.seq (.reg [⟨(some 2), .assign (.const (.slice none 0 0)), none⟩] [0])
  (.seq (.seq (.reg [⟨(some 3), .move (.tmp 0), none⟩,
    ⟨(some 4), .binOp .eql 24 (.tmp 3) (.const (.slice none 0 0)) 24, none⟩] [0, 4])
  (.cond (.tmp 4) (.seq (.reg [⟨(some 2), .assign (.const (.slice none 0 0)), none⟩] [2])
  .ret)
  .skip))
  (.seq (.reg [⟨(some 5), .buildSlice 24 0 #[], none⟩,
    ⟨(some 6), .move (.tmp 0), none⟩,
    ⟨(some 7), .call ⟨.builtin .append, #[(.tmp 5), (.tmp 6)], #[24, 24]⟩, none⟩,
    ⟨(some 2), .assign (.tmp 7), none⟩] [2])
  .ret)))
theorem slices_Clone___impl_Printing_impl_Printing__k : fnOk Tryd.prog (fun _ => false) 31 = some (slices_Clone___impl_Printing_impl_Printing__c.strip, 8, [.tmp 2]) := by kernel_rfl
/-- head: [0, 3] -/
def spec_l14Good_l0 : ACode := (.seq (.seq (.reg [⟨(some 4), .move (.tmp 3), none⟩,
    ⟨(some 5), .move (.tmp 0), none⟩,
    ⟨(some 6), .call ⟨.builtin .len, #[(.tmp 5)], #[24]⟩, none⟩,
    ⟨(some 7), .binOp .lss 3 (.tmp 4) (.tmp 6) 3, none⟩] [0, 3, 7])
  (.cond (.tmp 7) .skip
  (.exit 0)))
  (.seq (.block 1 (.seq (.regQ [⟨(some 10), .move (.tmp 0), none⟩,
    ⟨(some 11), .move (.tmp 3), none⟩,
    ⟨(some 12), .indexAddr 24 (.tmp 10) (.tmp 11), none⟩,
    ⟨(some 13), .load 34 (.tmp 12), none⟩,
    ⟨(some 14), .call ⟨.value (.func 49), #[(.tmp 13)], #[34]⟩, none⟩,
    ⟨(some 15), .unOp .not 4 (.tmp 14), none⟩,
    ⟨(some 16), .move (.tmp 15), none⟩,
    ⟨(some 17), .move (.tmp 3), (some (some 16, false))⟩,
    ⟨(some 18), .binOp .gtr 3 (.tmp 17) (.const (.int .i64 0)) 3, (some (some 16, false))⟩,
    ⟨(some 19), .move (.tmp 18), (some (some 16, false))⟩,
    ⟨(some 20), .move (.tmp 0), (some (some 19, true))⟩,
    ⟨(some 21), .move (.tmp 3), (some (some 19, true))⟩,
    ⟨(some 22), .binOp .sub 3 (.tmp 21) (.const (.int .i64 1)) 3, (some (some 19, true))⟩,
    ⟨(some 23), .indexAddr 24 (.tmp 20) (.tmp 22), (some (some 19, true))⟩,
    ⟨(some 24), .fieldAddr 34 (.tmp 23) 0, (some (some 19, true))⟩,
    ⟨(some 25), .load 3 (.tmp 24), (some (some 19, true))⟩,
    ⟨(some 26), .move (.tmp 0), (some (some 19, true))⟩,
    ⟨(some 27), .move (.tmp 3), (some (some 19, true))⟩,
    ⟨(some 28), .indexAddr 24 (.tmp 26) (.tmp 27), (some (some 19, true))⟩,
    ⟨(some 29), .fieldAddr 34 (.tmp 28) 0, (some (some 19, true))⟩,
    ⟨(some 30), .load 3 (.tmp 29), (some (some 19, true))⟩,
    ⟨(some 31), .binOp .geq 3 (.tmp 25) (.tmp 30) 3, (some (some 19, true))⟩,
    ⟨(some 32), .move (.tmp 31), (some (some 19, true))⟩,
    ⟨(some 33), .move (.tmp 0), (some (some 32, false))⟩,
    ⟨(some 34), .move (.tmp 3), (some (some 32, false))⟩,
    ⟨(some 35), .binOp .sub 3 (.tmp 34) (.const (.int .i64 1)) 3, (some (some 32, false))⟩,
    ⟨(some 36), .indexAddr 24 (.tmp 33) (.tmp 35), (some (some 32, false))⟩,
    ⟨(some 37), .fieldAddr 34 (.tmp 36) 1, (some (some 32, false))⟩,
    ⟨(some 38), .load 3 (.tmp 37), (some (some 32, false))⟩,
    ⟨(some 39), .move (.tmp 0), (some (some 32, false))⟩,
    ⟨(some 40), .move (.tmp 3), (some (some 32, false))⟩,
    ⟨(some 41), .indexAddr 24 (.tmp 39) (.tmp 40), (some (some 32, false))⟩,
    ⟨(some 42), .fieldAddr 34 (.tmp 41) 1, (some (some 32, false))⟩,
    ⟨(some 43), .load 3 (.tmp 42), (some (some 32, false))⟩,
    ⟨(some 44), .binOp .geq 3 (.tmp 38) (.tmp 43) 3, (some (some 32, false))⟩,
    ⟨(some 45), .pick (.tmp 32) (.const (.bool true)) (.tmp 44), (some (some 19, true))⟩,
    ⟨(some 46), .pick (.tmp 19) (.tmp 45) (.const (.bool false)), (some (some 16, false))⟩,
    ⟨(some 47), .pick (.tmp 16) (.const (.bool true)) (.tmp 46), none⟩] [0, 3, 47])
  (.cond (.tmp 47) (.seq (.reg [⟨(some 2), .assign (.const (.bool false)), none⟩] [2])
  .ret)
  .skip)))
  (.reg [⟨(some 8), .move (.tmp 3), none⟩,
    ⟨(some 9), .binOp .add 3 (.tmp 8) (.const (.int .i64 1)) 3, none⟩,
    ⟨(some 3), .assign (.tmp 9), none⟩] [0, 3])))
/-- loop.example/g01062/spec.l14Good: number 32, params [0] -/
def spec_l14Good_c : ACode := (.seq (.reg [⟨(some 2), .assign (.const (.bool false)), none⟩] [0])
  (.seq (.seq (.reg [⟨(some 3), .assign (.const (.int .i64 0)), none⟩] [0, 3])
  (.block 0 (.loop spec_l14Good_l0)))
  (.seq (.reg [⟨(some 48), .move (.tmp 0), none⟩,
    ⟨(some 49), .call ⟨.builtin .len, #[(.tmp 48)], #[24]⟩, none⟩,
    ⟨(some 50), .binOp .leq 3 (.tmp 49) (.const (.int .i64 12)) 3, none⟩,
    ⟨(some 2), .assign (.tmp 50), none⟩] [2])
  .ret)))
theorem spec_l14Good_k : fnOk Tryd.prog (fun _ => false) 32 = some (spec_l14Good_c.strip, 51, [.tmp 2]) := by kernel_rfl
/-- loop.example/g01062/impl.isDay: number 33, params [0] -/
def impl_isDay_c : ACode := (.seq (.reg [⟨(some 2), .assign (.const (.bool false)), none⟩] [0])
  (.seq (.reg [⟨(some 3), .move (.tmp 0), none⟩,
    ⟨(some 4), .call ⟨.value (.func 45), #[(.tmp 3), (.const (.int .i64 0)), (.const (.int .i64 4000))], #[3, 3, 3]⟩, none⟩,
    ⟨(some 2), .assign (.tmp 4), none⟩] [2])
  .ret))
theorem impl_isDay_k : fnOk Tryd.prog (fun _ => false) 33 = some (impl_isDay_c.strip, 5, [.tmp 2]) := by kernel_rfl
/-- loop.example/g01062/impl.printingAt: number 35, params [0, 1] -/
def impl_printingAt_c : ACode := (.seq (.reg [⟨(some 3), .box 3 (.tmp 1), none⟩,
    ⟨(some 4), .assign (.const (.int .i64 0)), none⟩] [0, 3])
  (.seq (.reg [⟨(some 5), .move (.tmp 0), none⟩,
    ⟨(some 6), .makeFunc (.func 54) #[] #[(.tmp 3)], none⟩,
    ⟨(some 7), .call ⟨.value (.func 53), #[(.tmp 5), (.tmp 6)], #[24, 67]⟩, none⟩,
    ⟨(some 4), .assign (.tmp 7), none⟩] [4])
  .ret))
theorem impl_printingAt_k : fnOk Tryd.prog (fun _ => false) 35 = some (impl_printingAt_c.strip, 8, [.tmp 4]) := by kernel_rfl
/-- (loop.example/g01062/impl.Printing).has: number 36, params [0, 1] -/
def _impl_Printing__has_c : ACode := (.seq (.reg [⟨(some 2), .box 34 (.tmp 0), none⟩,
    ⟨(some 4), .assign (.const (.bool false)), none⟩] [1, 2])
  (.seq (.reg [⟨(some 5), .move (.tmp 1), none⟩,
    ⟨(some 6), .fieldAddr 34 (.tmp 2) 3, none⟩,
    ⟨(some 7), .load 3 (.tmp 6), none⟩,
    ⟨(some 8), .fieldAddr 34 (.tmp 2) 4, none⟩,
    ⟨(some 9), .load 3 (.tmp 8), none⟩,
    ⟨(some 10), .binOp .sub 3 (.tmp 7) (.tmp 9) 3, none⟩,
    ⟨(some 11), .fieldAddr 34 (.tmp 2) 3, none⟩,
    ⟨(some 12), .load 3 (.tmp 11), none⟩,
    ⟨(some 13), .fieldAddr 34 (.tmp 2) 4, none⟩,
    ⟨(some 14), .load 3 (.tmp 13), none⟩,
    ⟨(some 15), .binOp .add 3 (.tmp 12) (.tmp 14) 3, none⟩,
    ⟨(some 16), .call ⟨.value (.func 45), #[(.tmp 5), (.tmp 10), (.tmp 15)], #[3, 3, 3]⟩, none⟩,
    ⟨(some 4), .assign (.tmp 16), none⟩] [4])
  .ret))
theorem _impl_Printing__has_k : fnOk Tryd.prog (fun _ => false) 36 = some (_impl_Printing__has_c.strip, 17, [.tmp 4]) := by kernel_rfl
/-- head: [0, 1, 5] -/
def spec_l14Find_l0 : ACode := (.seq (.seq (.reg [⟨(some 6), .move (.tmp 5), none⟩,
    ⟨(some 7), .move (.tmp 0), none⟩,
    ⟨(some 8), .call ⟨.builtin .len, #[(.tmp 7)], #[24]⟩, none⟩,
    ⟨(some 9), .binOp .lss 3 (.tmp 6) (.tmp 8) 3, none⟩] [0, 1, 5, 9])
  (.cond (.tmp 9) .skip
  (.exit 0)))
  (.seq (.block 1 (.seq (.reg [⟨(some 12), .move (.tmp 0), none⟩,
    ⟨(some 13), .move (.tmp 5), none⟩,
    ⟨(some 14), .indexAddr 24 (.tmp 12) (.tmp 13), none⟩,
    ⟨(some 15), .fieldAddr 34 (.tmp 14) 0, none⟩,
    ⟨(some 16), .load 3 (.tmp 15), none⟩,
    ⟨(some 17), .move (.tmp 1), none⟩,
    ⟨(some 18), .binOp .eql 3 (.tmp 16) (.tmp 17) 3, none⟩] [0, 1, 5, 18])
  (.cond (.tmp 18) (.seq (.reg [⟨(some 19), .move (.tmp 5), none⟩,
    ⟨(some 4), .assign (.tmp 19), none⟩] [4])
  .ret)
  .skip)))
  (.reg [⟨(some 10), .move (.tmp 5), none⟩,
    ⟨(some 11), .binOp .add 3 (.tmp 10) (.const (.int .i64 1)) 3, none⟩,
    ⟨(some 5), .assign (.tmp 11), none⟩] [0, 1, 5])))
/-- loop.example/g01062/spec.l14Find: number 37, params [0, 1] -/
def spec_l14Find_c : ACode := (.seq (.reg [⟨(some 4), .assign (.const (.int .i64 0)), none⟩] [0, 1])
  (.seq (.seq (.reg [⟨(some 5), .assign (.const (.int .i64 0)), none⟩] [0, 1, 5])
  (.block 0 (.loop spec_l14Find_l0)))
  (.seq (.reg [⟨(some 4), .assign (.const (.int .i64 (-1))), none⟩] [4])
  .ret)))
theorem spec_l14Find_k : fnOk Tryd.prog (fun _ => false) 37 = some (spec_l14Find_c.strip, 20, [.tmp 4]) := by kernel_rfl
/-- loop.example/g01062/spec.l14Has: number 38, params [0, 1] -/
def spec_l14Has_c : ACode := (.seq (.reg [⟨(some 2), .box 34 (.tmp 0), none⟩,
    ⟨(some 4), .assign (.const (.bool false)), none⟩] [1, 2])
  (.seq (.reg [⟨(some 5), .move (.tmp 1), none⟩,
    ⟨(some 6), .fieldAddr 34 (.tmp 2) 3, none⟩,
    ⟨(some 7), .load 3 (.tmp 6), none⟩,
    ⟨(some 8), .fieldAddr 34 (.tmp 2) 4, none⟩,
    ⟨(some 9), .load 3 (.tmp 8), none⟩,
    ⟨(some 10), .binOp .sub 3 (.tmp 7) (.tmp 9) 3, none⟩,
    ⟨(some 11), .fieldAddr 34 (.tmp 2) 3, none⟩,
    ⟨(some 12), .load 3 (.tmp 11), none⟩,
    ⟨(some 13), .fieldAddr 34 (.tmp 2) 4, none⟩,
    ⟨(some 14), .load 3 (.tmp 13), none⟩,
    ⟨(some 15), .binOp .add 3 (.tmp 12) (.tmp 14) 3, none⟩,
    ⟨(some 16), .call ⟨.value (.func 46), #[(.tmp 5), (.tmp 10), (.tmp 15)], #[3, 3, 3]⟩, none⟩,
    ⟨(some 4), .assign (.tmp 16), none⟩] [4])
  .ret))
theorem spec_l14Has_k : fnOk Tryd.prog (fun _ => false) 38 = some (spec_l14Has_c.strip, 17, [.tmp 4]) := by kernel_rfl
/-- loop.example/g01062/impl.isTone: number 39, params [0] -/
def impl_isTone_c : ACode := (.seq (.reg [⟨(some 2), .assign (.const (.bool false)), none⟩] [0])
  (.seq (.reg [⟨(some 3), .move (.tmp 0), none⟩,
    ⟨(some 4), .call ⟨.value (.func 45), #[(.tmp 3), (.const (.int .i64 (-20))), (.const (.int .i64 120))], #[3, 3, 3]⟩, none⟩,
    ⟨(some 2), .assign (.tmp 4), none⟩] [2])
  .ret))
theorem impl_isTone_k : fnOk Tryd.prog (fun _ => false) 39 = some (impl_isTone_c.strip, 5, [.tmp 2]) := by kernel_rfl
/-- (loop.example/g01062/impl.Printing).canBe: number 40, params [0, 1, 2] -/
def _impl_Printing__canBe_c : ACode := (.seq (.reg [⟨(some 3), .box 34 (.tmp 0), none⟩,
    ⟨(some 6), .assign (.const (.bool false)), none⟩] [1, 2, 3])
  (.seq (.reg [⟨(some 7), .fieldAddr 34 (.tmp 3) 1, none⟩,
    ⟨(some 8), .load 3 (.tmp 7), none⟩,
    ⟨(some 9), .move (.tmp 1), none⟩,
    ⟨(some 10), .binOp .leq 3 (.tmp 8) (.tmp 9) 3, none⟩,
    ⟨(some 11), .move (.tmp 10), none⟩,
    ⟨(some 12), .load 34 (.tmp 3), (some (some 11, true))⟩,
    ⟨(some 13), .move (.tmp 2), (some (some 11, true))⟩,
    ⟨(some 14), .call ⟨.value (.func 36), #[(.tmp 12), (.tmp 13)], #[34, 3]⟩, (some (some 11, true))⟩,
    ⟨(some 15), .pick (.tmp 11) (.tmp 14) (.const (.bool false)), none⟩,
    ⟨(some 6), .assign (.tmp 15), none⟩] [6])
  .ret))
theorem _impl_Printing__canBe_k : fnOk Tryd.prog (fun _ => false) 40 = some (_impl_Printing__canBe_c.strip, 16, [.tmp 6]) := by kernel_rfl
/-- head: [0, 1, 5, 6] -/
def spec_l14Sum_l0 : ACode := (.seq (.seq (.reg [⟨(some 7), .move (.tmp 6), none⟩,
    ⟨(some 8), .move (.tmp 0), none⟩,
    ⟨(some 9), .call ⟨.builtin .len, #[(.tmp 8)], #[24]⟩, none⟩,
    ⟨(some 10), .binOp .lss 3 (.tmp 7) (.tmp 9) 3, none⟩] [0, 1, 5, 6, 10])
  (.cond (.tmp 10) .skip
  (.exit 0)))
  (.seq (.block 1 (.seq (.reg [⟨(some 13), .move (.tmp 0), none⟩,
    ⟨(some 14), .move (.tmp 6), none⟩,
    ⟨(some 15), .indexAddr 24 (.tmp 13) (.tmp 14), none⟩,
    ⟨(some 16), .fieldAddr 34 (.tmp 15) 1, none⟩,
    ⟨(some 17), .load 3 (.tmp 16), none⟩,
    ⟨(some 18), .move (.tmp 1), none⟩,
    ⟨(some 19), .binOp .leq 3 (.tmp 17) (.tmp 18) 3, none⟩] [0, 1, 5, 6, 19])
  (.cond (.tmp 19) (.reg [⟨(some 20), .move (.tmp 5), none⟩,
    ⟨(some 21), .move (.tmp 0), none⟩,
    ⟨(some 22), .move (.tmp 6), none⟩,
    ⟨(some 23), .indexAddr 24 (.tmp 21) (.tmp 22), none⟩,
    ⟨(some 24), .fieldAddr 34 (.tmp 23) 2, none⟩,
    ⟨(some 25), .load 3 (.tmp 24), none⟩,
    ⟨(some 26), .binOp .add 3 (.tmp 20) (.tmp 25) 3, none⟩,
    ⟨(some 5), .assign (.tmp 26), none⟩] [0, 1, 5, 6])
  .skip)))
  (.reg [⟨(some 11), .move (.tmp 6), none⟩,
    ⟨(some 12), .binOp .add 3 (.tmp 11) (.const (.int .i64 1)) 3, none⟩,
    ⟨(some 6), .assign (.tmp 12), none⟩] [0, 1, 5, 6])))
/-- loop.example/g01062/spec.l14Sum: number 42, params [0, 1] -/
def spec_l14Sum_c : ACode := (.seq (.reg [⟨(some 4), .assign (.const (.int .i64 0)), none⟩] [0, 1])
  (.seq (.reg [⟨(some 5), .assign (.const (.int .i64 0)), none⟩] [0, 1, 5])
  (.seq (.seq (.reg [⟨(some 6), .assign (.const (.int .i64 0)), none⟩] [0, 1, 5, 6])
  (.block 0 (.loop spec_l14Sum_l0)))
  (.seq (.reg [⟨(some 27), .move (.tmp 5), none⟩,
    ⟨(some 4), .assign (.tmp 27), none⟩] [4])
  .ret))))
theorem spec_l14Sum_k : fnOk Tryd.prog (fun _ => false) 42 = some (spec_l14Sum_c.strip, 28, [.tmp 4]) := by kernel_rfl
/-- loop.example/g01062/spec.l1Least: number 43, params [0, 1] -/
def spec_l1Least_c : ACode := (.seq (.reg [⟨(some 4), .assign (.const (.int .i64 0)), none⟩] [0, 1])
  (.seq (.seq (.reg [⟨(some 5), .move (.tmp 0), none⟩,
    ⟨(some 6), .move (.tmp 1), none⟩,
    ⟨(some 7), .binOp .lss 3 (.tmp 5) (.tmp 6) 3, none⟩] [0, 1, 7])
  (.cond (.tmp 7) (.seq (.reg [⟨(some 8), .move (.tmp 0), none⟩,
    ⟨(some 4), .assign (.tmp 8), none⟩] [4])
  .ret)
  .skip))
  (.seq (.reg [⟨(some 9), .move (.tmp 1), none⟩,
    ⟨(some 4), .assign (.tmp 9), none⟩] [4])
  .ret)))
theorem spec_l1Least_k : fnOk Tryd.prog (fun _ => false) 43 = some (spec_l1Least_c.strip, 10, [.tmp 4]) := by kernel_rfl
/-- loop.example/g01062/spec.l1Most: number 44, params [0, 1] -/
def spec_l1Most_c : ACode := (.seq (.reg [⟨(some 4), .assign (.const (.int .i64 0)), none⟩] [0, 1])
  (.seq (.seq (.reg [⟨(some 5), .move (.tmp 0), none⟩,
    ⟨(some 6), .move (.tmp 1), none⟩,
    ⟨(some 7), .binOp .gtr 3 (.tmp 5) (.tmp 6) 3, none⟩] [0, 1, 7])
  (.cond (.tmp 7) (.seq (.reg [⟨(some 8), .move (.tmp 0), none⟩,
    ⟨(some 4), .assign (.tmp 8), none⟩] [4])
  .ret)
  .skip))
  (.seq (.reg [⟨(some 9), .move (.tmp 1), none⟩,
    ⟨(some 4), .assign (.tmp 9), none⟩] [4])
  .ret)))
theorem spec_l1Most_k : fnOk Tryd.prog (fun _ => false) 44 = some (spec_l1Most_c.strip, 10, [.tmp 4]) := by kernel_rfl
/-- loop.example/g01062/impl.inRange: number 45, params [0, 1, 2] -/
def impl_inRange_c : ACode := (.seq (.reg [⟨(some 6), .assign (.const (.bool false)), none⟩] [0, 1, 2])
  (.seq (.reg [⟨(some 7), .move (.tmp 0), none⟩,
    ⟨(some 8), .move (.tmp 1), none⟩,
    ⟨(some 9), .binOp .geq 3 (.tmp 7) (.tmp 8) 3, none⟩,
    ⟨(some 10), .move (.tmp 9), none⟩,
    ⟨(some 11), .move (.tmp 0), (some (some 10, true))⟩,
    ⟨(some 12), .move (.tmp 2), (some (some 10, true))⟩,
    ⟨(some 13), .binOp .leq 3 (.tmp 11) (.tmp 12) 3, (some (some 10, true))⟩,
    ⟨(some 14), .pick (.tmp 10) (.tmp 13) (.const (.bool false)), none⟩,
    ⟨(some 6), .assign (.tmp 14), none⟩] [6])
  .ret))
theorem impl_inRange_k : fnOk Tryd.prog (fun _ => false) 45 = some (impl_inRange_c.strip, 15, [.tmp 6]) := by kernel_rfl
/-- loop.example/g01062/spec.l1In: number 46, params [0, 1, 2] -/
def spec_l1In_c : ACode := (.seq (.reg [⟨(some 6), .assign (.const (.bool false)), none⟩] [0, 1, 2])
  (.seq (.reg [⟨(some 7), .move (.tmp 0), none⟩,
    ⟨(some 8), .move (.tmp 1), none⟩,
    ⟨(some 9), .binOp .geq 3 (.tmp 7) (.tmp 8) 3, none⟩,
    ⟨(some 10), .move (.tmp 9), none⟩,
    ⟨(some 11), .move (.tmp 0), (some (some 10, true))⟩,
    ⟨(some 12), .move (.tmp 2), (some (some 10, true))⟩,
    ⟨(some 13), .binOp .leq 3 (.tmp 11) (.tmp 12) 3, (some (some 10, true))⟩,
    ⟨(some 14), .pick (.tmp 10) (.tmp 13) (.const (.bool false)), none⟩,
    ⟨(some 6), .assign (.tmp 14), none⟩] [6])
  .ret))
theorem spec_l1In_k : fnOk Tryd.prog (fun _ => false) 46 = some (spec_l1In_c.strip, 15, [.tmp 6]) := by kernel_rfl
/-- loop.example/g01062/impl.isPrinting: number 47, params [0] -/
def impl_isPrinting_c : ACode := (.seq (.reg [⟨(some 1), .box 34 (.tmp 0), none⟩,
    ⟨(some 2), .assign (.const (.bool false)), none⟩] [1])
  (.seq (.reg [⟨(some 3), .fieldAddr 34 (.tmp 1) 0, none⟩,
    ⟨(some 4), .load 3 (.tmp 3), none⟩,
    ⟨(some 5), .call ⟨.value (.func 45), #[(.tmp 4), (.const (.int .i64 1)), (.const (.int .i64 99))], #[3, 3, 3]⟩, none⟩,
    ⟨(some 6), .move (.tmp 5), none⟩,
    ⟨(some 7), .fieldAddr 34 (.tmp 1) 1, (some (some 6, true))⟩,
    ⟨(some 8), .load 3 (.tmp 7), (some (some 6, true))⟩,
    ⟨(some 9), .call ⟨.value (.func 33), #[(.tmp 8)], #[3]⟩, (some (some 6, true))⟩,
    ⟨(some 10), .pick (.tmp 6) (.tmp 9) (.const (.bool false)), none⟩,
    ⟨(some 11), .move (.tmp 10), none⟩,
    ⟨(some 12), .fieldAddr 34 (.tmp 1) 2, (some (some 11, true))⟩,
    ⟨(some 13), .load 3 (.tmp 12), (some (some 11, true))⟩,
    ⟨(some 14), .call ⟨.value (.func 45), #[(.tmp 13), (.const (.int .i64 1)), (.const (.int .i64 9999))], #[3, 3, 3]⟩, (some (some 11, true))⟩,
    ⟨(some 15), .pick (.tmp 11) (.tmp 14) (.const (.bool false)), none⟩,
    ⟨(some 16), .move (.tmp 15), none⟩,
    ⟨(some 17), .fieldAddr 34 (.tmp 1) 3, (some (some 16, true))⟩,
    ⟨(some 18), .load 3 (.tmp 17), (some (some 16, true))⟩,
    ⟨(some 19), .call ⟨.value (.func 45), #[(.tmp 18), (.const (.int .i64 0)), (.const (.int .i64 100))], #[3, 3, 3]⟩, (some (some 16, true))⟩,
    ⟨(some 20), .pick (.tmp 16) (.tmp 19) (.const (.bool false)), none⟩,
    ⟨(some 21), .move (.tmp 20), none⟩,
    ⟨(some 22), .fieldAddr 34 (.tmp 1) 4, (some (some 21, true))⟩,
    ⟨(some 23), .load 3 (.tmp 22), (some (some 21, true))⟩,
    ⟨(some 24), .call ⟨.value (.func 45), #[(.tmp 23), (.const (.int .i64 0)), (.const (.int .i64 20))], #[3, 3, 3]⟩, (some (some 21, true))⟩,
    ⟨(some 25), .pick (.tmp 21) (.tmp 24) (.const (.bool false)), none⟩,
    ⟨(some 2), .assign (.tmp 25), none⟩] [2])
  .ret))
theorem impl_isPrinting_k : fnOk Tryd.prog (fun _ => false) 47 = some (impl_isPrinting_c.strip, 26, [.tmp 2]) := by kernel_rfl
/-- loop.example/g01062/spec.l14One: number 49, params [0] -/
def spec_l14One_c : ACode := (.seq (.reg [⟨(some 1), .box 34 (.tmp 0), none⟩,
    ⟨(some 2), .assign (.const (.bool false)), none⟩] [1])
  (.seq (.reg [⟨(some 3), .fieldAddr 34 (.tmp 1) 0, none⟩,
    ⟨(some 4), .load 3 (.tmp 3), none⟩,
    ⟨(some 5), .call ⟨.value (.func 46), #[(.tmp 4), (.const (.int .i64 1)), (.const (.int .i64 99))], #[3, 3, 3]⟩, none⟩,
    ⟨(some 6), .move (.tmp 5), none⟩,
    ⟨(some 7), .fieldAddr 34 (.tmp 1) 1, (some (some 6, true))⟩,
    ⟨(some 8), .load 3 (.tmp 7), (some (some 6, true))⟩,
    ⟨(some 9), .call ⟨.value (.func 56), #[(.tmp 8)], #[3]⟩, (some (some 6, true))⟩,
    ⟨(some 10), .pick (.tmp 6) (.tmp 9) (.const (.bool false)), none⟩,
    ⟨(some 11), .move (.tmp 10), none⟩,
    ⟨(some 12), .fieldAddr 34 (.tmp 1) 2, (some (some 11, true))⟩,
    ⟨(some 13), .load 3 (.tmp 12), (some (some 11, true))⟩,
    ⟨(some 14), .call ⟨.value (.func 46), #[(.tmp 13), (.const (.int .i64 1)), (.const (.int .i64 9999))], #[3, 3, 3]⟩, (some (some 11, true))⟩,
    ⟨(some 15), .pick (.tmp 11) (.tmp 14) (.const (.bool false)), none⟩,
    ⟨(some 16), .move (.tmp 15), none⟩,
    ⟨(some 17), .fieldAddr 34 (.tmp 1) 3, (some (some 16, true))⟩,
    ⟨(some 18), .load 3 (.tmp 17), (some (some 16, true))⟩,
    ⟨(some 19), .call ⟨.value (.func 46), #[(.tmp 18), (.const (.int .i64 0)), (.const (.int .i64 100))], #[3, 3, 3]⟩, (some (some 16, true))⟩,
    ⟨(some 20), .pick (.tmp 16) (.tmp 19) (.const (.bool false)), none⟩,
    ⟨(some 21), .move (.tmp 20), none⟩,
    ⟨(some 22), .fieldAddr 34 (.tmp 1) 4, (some (some 21, true))⟩,
    ⟨(some 23), .load 3 (.tmp 22), (some (some 21, true))⟩,
    ⟨(some 24), .call ⟨.value (.func 46), #[(.tmp 23), (.const (.int .i64 0)), (.const (.int .i64 20))], #[3, 3, 3]⟩, (some (some 21, true))⟩,
    ⟨(some 25), .pick (.tmp 21) (.tmp 24) (.const (.bool false)), none⟩,
    ⟨(some 2), .assign (.tmp 25), none⟩] [2])
  .ret))
theorem spec_l14One_k : fnOk Tryd.prog (fun _ => false) 49 = some (spec_l14One_c.strip, 26, [.tmp 2]) := by kernel_rfl
/-- loop.example/g01062/spec.l1Num: number 50, params [0] -/
def spec_l1Num_c : ACode := (.seq (.reg [⟨(some 2), .assign (.const (.string ⟨#[]⟩)), none⟩] [0])
  (.seq (.seq (.reg [⟨(some 3), .move (.tmp 0), none⟩,
    ⟨(some 4), .binOp .lss 3 (.tmp 3) (.const (.int .i64 0)) 3, none⟩] [0, 4])
  (.cond (.tmp 4) (.seq (.reg [⟨(some 5), .move (.tmp 0), none⟩,
    ⟨(some 6), .unOp .neg 3 (.tmp 5), none⟩,
    ⟨(some 7), .call ⟨.value (.func 50), #[(.tmp 6)], #[3]⟩, none⟩,
    ⟨(some 8), .binOp .add 9 (.const (.string ⟨#[45]⟩)) (.tmp 7) 9, none⟩,
    ⟨(some 2), .assign (.tmp 8), none⟩] [2])
  .ret)
  .skip))
  (.seq (.seq (.reg [⟨(some 9), .move (.tmp 0), none⟩,
    ⟨(some 10), .binOp .lss 3 (.tmp 9) (.const (.int .i64 10)) 3, none⟩] [0, 10])
  (.cond (.tmp 10) (.seq (.reg [⟨(some 11), .move (.tmp 0), none⟩,
    ⟨(some 12), .move (.tmp 0), none⟩,
    ⟨(some 13), .binOp .add 3 (.tmp 12) (.const (.int .i64 1)) 3, none⟩,
    ⟨(some 14), .slice 9 (.const (.string ⟨#[48, 49, 50, 51, 52, 53, 54, 55, 56, 57]⟩)) (some (.tmp 11)) (some (.tmp 13)) none, none⟩,
    ⟨(some 2), .assign (.tmp 14), none⟩] [2])
  .ret)
  .skip))
  (.seq (.regQ [⟨(some 15), .move (.tmp 0), none⟩,
    ⟨(some 16), .binOp .quo 3 (.tmp 15) (.const (.int .i64 10)) 3, none⟩,
    ⟨(some 17), .call ⟨.value (.func 50), #[(.tmp 16)], #[3]⟩, none⟩,
    ⟨(some 18), .move (.tmp 0), none⟩,
    ⟨(some 19), .binOp .rem 3 (.tmp 18) (.const (.int .i64 10)) 3, none⟩,
    ⟨(some 20), .move (.tmp 0), none⟩,
    ⟨(some 21), .binOp .rem 3 (.tmp 20) (.const (.int .i64 10)) 3, none⟩,
    ⟨(some 22), .binOp .add 3 (.tmp 21) (.const (.int .i64 1)) 3, none⟩,
    ⟨(some 23), .slice 9 (.const (.string ⟨#[48, 49, 50, 51, 52, 53, 54, 55, 56, 57]⟩)) (some (.tmp 19)) (some (.tmp 22)) none, none⟩,
    ⟨(some 24), .binOp .add 9 (.tmp 17) (.tmp 23) 9, none⟩,
    ⟨(some 2), .assign (.tmp 24), none⟩] [2])
  .ret))))
theorem spec_l1Num_k : fnOk Tryd.prog (fun _ => false) 50 = some (spec_l1Num_c.strip, 25, [.tmp 2]) := by kernel_rfl
/-- head: [0, 1, 7, 8] -/
def slices_IndexFunc___impl_Printing_impl_Printing__l0 : ACode := (.seq (.reg [⟨(some 9), .binOp .lss 3 (.tmp 8) (.tmp 7) 3, none⟩] [0, 1, 7, 8, 9])
  (.seq (.cond (.tmp 9) .skip
  (.exit 0))
  (.seq (.block 1 (.seq (.reg [⟨(some 10), .move (.tmp 8), none⟩,
    ⟨(some 5), .assign (.tmp 10), none⟩] [0, 1, 5, 7, 8])
  (.seq (.reg [⟨(some 11), .move (.tmp 1), none⟩,
    ⟨(some 12), .move (.tmp 0), none⟩,
    ⟨(some 13), .move (.tmp 5), none⟩,
    ⟨(some 14), .indexAddr 24 (.tmp 12) (.tmp 13), none⟩,
    ⟨(some 15), .load 34 (.tmp 14), none⟩,
    ⟨(some 16), .call ⟨.value (.tmp 11), #[(.tmp 15)], #[34]⟩, none⟩] [0, 1, 5, 7, 8, 16])
  (.cond (.tmp 16) (.seq (.reg [⟨(some 17), .move (.tmp 5), none⟩,
    ⟨(some 4), .assign (.tmp 17), none⟩] [4])
  .ret)
  .skip))))
  (.reg [⟨(some 18), .binOp .add 3 (.tmp 8) (.const (.int .i64 1)) 3, none⟩,
    ⟨(some 8), .move (.tmp 18), none⟩] [0, 1, 7, 8]))))
/-- slices.IndexFunc[[]loop.example/g01062/impl.Printing,loop.example/g01062/impl.Printing]: number 53, params [0, 1] -/
def slices_IndexFunc___impl_Printing_impl_Printing__c : ACode := (.seq (.reg [⟨(some 4), .assign (.const (.int .i64 0)), none⟩] [0, 1])
  (.seq (.seq (.reg [⟨(some 6), .move (.tmp 0), none⟩,
    ⟨(some 7), .call ⟨.builtin .len, #[(.tmp 6)], #[24]⟩, none⟩,
    ⟨(some 8), .move (.const (.int .i64 0)), none⟩] [0, 1, 7, 8])
  (.block 0 (.loop slices_IndexFunc___impl_Printing_impl_Printing__l0)))
  (.seq (.reg [⟨(some 4), .assign (.const (.int .i64 (-1))), none⟩] [4])
  .ret)))
theorem slices_IndexFunc___impl_Printing_impl_Printing__k : fnOk Tryd.prog (fun _ => false) 53 = some (slices_IndexFunc___impl_Printing_impl_Printing__c.strip, 19, [.tmp 4]) := by kernel_rfl
/-- loop.example/g01062/impl.printingAt$1: number 54, params [0] -/
def impl_printingAt_1_c : ACode := (.seq (.reg [⟨(some 2), .box 34 (.tmp 0), none⟩,
    ⟨(some 3), .assign (.const (.bool false)), none⟩] [1, 2])
  (.seq (.reg [⟨(some 4), .fieldAddr 34 (.tmp 2) 0, none⟩,
    ⟨(some 5), .load 3 (.tmp 4), none⟩,
    ⟨(some 6), .load 3 (.tmp 1), none⟩,
    ⟨(some 7), .binOp .eql 3 (.tmp 5) (.tmp 6) 3, none⟩,
    ⟨(some 3), .assign (.tmp 7), none⟩] [3])
  .ret))
theorem impl_printingAt_1_k : fnOk Tryd.prog (fun _ => false) 54 = some (impl_printingAt_1_c.strip, 8, [.tmp 3]) := by kernel_rfl
/-- loop.example/g01062/spec.l2Day: number 56, params [0] -/
def spec_l2Day_c : ACode := (.seq (.reg [⟨(some 2), .assign (.const (.bool false)), none⟩] [0])
  (.seq (.reg [⟨(some 3), .move (.tmp 0), none⟩,
    ⟨(some 4), .call ⟨.value (.func 46), #[(.tmp 3), (.const (.int .i64 0)), (.const (.int .i64 4000))], #[3, 3, 3]⟩, none⟩,
    ⟨(some 2), .assign (.tmp 4), none⟩] [2])
  .ret))
theorem spec_l2Day_k : fnOk Tryd.prog (fun _ => false) 56 = some (spec_l2Day_c.strip, 5, [.tmp 2]) := by kernel_rfl
end Go.Proofs.YtegmlgikdniohaaDoor
