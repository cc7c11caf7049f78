/- Printed by a program of ours: the functions' abstract code and facts on their types. -/
import Derived.Test.YtjiffkjeijfilaaCoC
set_option maxRecDepth 8000
namespace Go.Proofs.Ytjiffkjeijfilaa
open Go Go.RowKit

/-- head: [2, 3, 6, 37, 38, 39] -/
def impl_ChangeOf_l0 : ACode := (.seq (.reg [⟨(some 40), .binOp .lss 3 (.tmp 39) (.tmp 38) 3, none⟩] [2, 3, 6, 37, 38, 39, 40])
  (.seq (.cond (.tmp 40) .skip
  (.exit 0))
  (.seq (.block 1 (.seq (.reg [⟨(some 41), .move (.tmp 39), none⟩,
    ⟨(some 42), .indexAddr 127 (.tmp 37) (.tmp 39), none⟩,
    ⟨(some 43), .load 4 (.tmp 42), none⟩,
    ⟨(some 7), .assign (.tmp 41), none⟩,
    ⟨(some 8), .assign (.tmp 43), none⟩] [2, 3, 6, 7, 8, 37, 38, 39])
  (.seq (.reg [⟨(some 44), .move (.tmp 8), none⟩] [2, 3, 6, 7, 37, 38, 39, 44])
  (.cond (.tmp 44) (.reg [⟨(some 45), .move (.tmp 6), none⟩,
    ⟨(some 46), .move (.tmp 7), none⟩,
    ⟨(some 47), .binOp .shl 3 (.const (.int .i64 1)) (.tmp 46) 3, none⟩,
    ⟨(some 48), .binOp .add 3 (.tmp 45) (.tmp 47) 3, none⟩,
    ⟨(some 6), .assign (.tmp 48), none⟩] [2, 3, 6, 37, 38, 39])
  .skip))))
  (.reg [⟨(some 49), .binOp .add 3 (.tmp 39) (.const (.int .i64 1)) 3, none⟩,
    ⟨(some 39), .move (.tmp 49), none⟩] [2, 3, 6, 37, 38, 39]))))
/-- loop.example/g01062/impl.ChangeOf: number 59, params [0, 1] -/
def impl_ChangeOf_c : ACode := (.seq (.reg [⟨(some 2), .box 27 (.tmp 0), none⟩,
    ⟨(some 3), .box 27 (.tmp 1), none⟩,
    ⟨(some 4), .assign (.const (.int .i64 0)), none⟩,
    ⟨(some 5), .assign (.const (.bool false)), none⟩] [2, 3])
  (.seq (.seq (.reg [⟨(some 9), .load 27 (.tmp 2), none⟩,
    ⟨(some 10), .call ⟨.value (.func 72), #[(.tmp 9)], #[27]⟩, none⟩,
    ⟨(some 11), .unOp .not 4 (.tmp 10), none⟩,
    ⟨(some 12), .move (.tmp 11), none⟩,
    ⟨(some 13), .load 27 (.tmp 3), (some (some 12, false))⟩,
    ⟨(some 14), .call ⟨.value (.func 72), #[(.tmp 13)], #[27]⟩, (some (some 12, false))⟩,
    ⟨(some 15), .unOp .not 4 (.tmp 14), (some (some 12, false))⟩,
    ⟨(some 16), .pick (.tmp 12) (.const (.bool true)) (.tmp 15), none⟩] [2, 3, 16])
  (.cond (.tmp 16) (.seq (.reg [⟨(some 4), .assign (.const (.int .i64 0)), none⟩,
    ⟨(some 5), .assign (.const (.bool false)), none⟩] [4, 5])
  .ret)
  .skip))
  (.seq (.reg [⟨(some 6), .assign (.const (.int .i64 0)), none⟩] [2, 3, 6])
  (.seq (.seq (.reg [⟨(some 17), .fieldAddr 27 (.tmp 2) 1, none⟩,
    ⟨(some 18), .load 3 (.tmp 17), none⟩,
    ⟨(some 19), .fieldAddr 27 (.tmp 3) 1, none⟩,
    ⟨(some 20), .load 3 (.tmp 19), none⟩,
    ⟨(some 21), .binOp .neq 3 (.tmp 18) (.tmp 20) 3, none⟩,
    ⟨(some 22), .fieldAddr 27 (.tmp 2) 2, none⟩,
    ⟨(some 23), .load 3 (.tmp 22), none⟩,
    ⟨(some 24), .fieldAddr 27 (.tmp 3) 2, none⟩,
    ⟨(some 25), .load 3 (.tmp 24), none⟩,
    ⟨(some 26), .binOp .neq 3 (.tmp 23) (.tmp 25) 3, none⟩,
    ⟨(some 27), .fieldAddr 27 (.tmp 2) 3, none⟩,
    ⟨(some 28), .load 3 (.tmp 27), none⟩,
    ⟨(some 29), .fieldAddr 27 (.tmp 3) 3, none⟩,
    ⟨(some 30), .load 3 (.tmp 29), none⟩,
    ⟨(some 31), .binOp .neq 3 (.tmp 28) (.tmp 30) 3, none⟩,
    ⟨(some 32), .fieldAddr 27 (.tmp 2) 4, none⟩,
    ⟨(some 33), .load 3 (.tmp 32), none⟩,
    ⟨(some 34), .fieldAddr 27 (.tmp 3) 4, none⟩,
    ⟨(some 35), .load 3 (.tmp 34), none⟩,
    ⟨(some 36), .binOp .neq 3 (.tmp 33) (.tmp 35) 3, none⟩,
    ⟨(some 37), .buildSlice 127 4 #[(0, (.tmp 21)), (1, (.tmp 26)), (2, (.tmp 31)), (3, (.tmp 36))], none⟩,
    ⟨(some 38), .call ⟨.builtin .len, #[(.tmp 37)], #[127]⟩, none⟩,
    ⟨(some 39), .move (.const (.int .i64 0)), none⟩] [2, 3, 6, 37, 38, 39])
  (.block 0 (.loop impl_ChangeOf_l0)))
  (.seq (.regF [⟨(some 52), .fieldAddr 27 (.tmp 3) 2, none⟩,
    ⟨(some 54), .fieldAddr 27 (.tmp 3) 3, none⟩,
    ⟨(some 56), .fieldAddr 27 (.tmp 3) 4, none⟩]
    [50, 51, 58, 53, 59, 55, 60, 57, 61] [.load 3 (.tmp 52), .load 3 (.tmp 54), .load 3 (.tmp 56)] [] []
    [⟨(some 50), .fieldAddr 27 (.tmp 3) 1, none⟩,
    ⟨(some 51), .load 3 (.tmp 50), none⟩,
    ⟨(some 58), .fieldAddr 27 (.tmp 2) 1, none⟩,
    ⟨none, .store 3 (.tmp 58) (.tmp 51), none⟩,
    ⟨(some 53), .load 3 (.tmp 52), none⟩,
    ⟨(some 59), .fieldAddr 27 (.tmp 2) 2, none⟩,
    ⟨none, .store 3 (.tmp 59) (.tmp 53), none⟩,
    ⟨(some 55), .load 3 (.tmp 54), none⟩,
    ⟨(some 60), .fieldAddr 27 (.tmp 2) 3, none⟩,
    ⟨none, .store 3 (.tmp 60) (.tmp 55), none⟩,
    ⟨(some 57), .load 3 (.tmp 56), none⟩,
    ⟨(some 61), .fieldAddr 27 (.tmp 2) 4, none⟩,
    ⟨none, .store 3 (.tmp 61) (.tmp 57), none⟩] [2, 3, 6])
  (.seq (.seq (.reg [⟨(some 62), .load 27 (.tmp 2), none⟩,
    ⟨(some 63), .load 27 (.tmp 3), none⟩,
    ⟨(some 64), .binOp .neq 27 (.tmp 62) (.tmp 63) 27, none⟩] [6, 64])
  (.cond (.tmp 64) (.seq (.reg [⟨(some 4), .assign (.const (.int .i64 0)), none⟩,
    ⟨(some 5), .assign (.const (.bool false)), none⟩] [4, 5])
  .ret)
  .skip))
  (.seq (.reg [⟨(some 65), .move (.tmp 6), none⟩,
    ⟨(some 4), .assign (.tmp 65), none⟩,
    ⟨(some 5), .assign (.const (.bool true)), none⟩] [4, 5])
  .ret)))))))
theorem impl_ChangeOf_k : fnOk Try.prog (fun _ => false) 59 = some (impl_ChangeOf_c.strip, 66, [.tmp 4, .tmp 5]) := by kernel_rfl
/-- loop.example/g01062/spec.ChangeOf: number 61, params [0, 1] -/
def spec_ChangeOf_c : ACode := (.seq (.reg [⟨(some 2), .box 27 (.tmp 0), none⟩,
    ⟨(some 3), .box 27 (.tmp 1), none⟩,
    ⟨(some 4), .assign (.const (.int .i64 0)), none⟩,
    ⟨(some 5), .assign (.const (.bool false)), none⟩] [2, 3])
  (.seq (.seq (.reg [⟨(some 7), .load 27 (.tmp 2), none⟩,
    ⟨(some 8), .call ⟨.value (.func 76), #[(.tmp 7)], #[27]⟩, none⟩,
    ⟨(some 9), .unOp .not 4 (.tmp 8), none⟩,
    ⟨(some 10), .move (.tmp 9), none⟩,
    ⟨(some 11), .load 27 (.tmp 3), (some (some 10, false))⟩,
    ⟨(some 12), .call ⟨.value (.func 76), #[(.tmp 11)], #[27]⟩, (some (some 10, false))⟩,
    ⟨(some 13), .unOp .not 4 (.tmp 12), (some (some 10, false))⟩,
    ⟨(some 14), .pick (.tmp 10) (.const (.bool true)) (.tmp 13), none⟩] [2, 3, 14])
  (.cond (.tmp 14) (.seq (.reg [⟨(some 4), .assign (.const (.int .i64 0)), none⟩,
    ⟨(some 5), .assign (.const (.bool false)), none⟩] [4, 5])
  .ret)
  .skip))
  (.seq (.reg [⟨(some 6), .assign (.const (.int .i64 0)), none⟩] [2, 3, 6])
  (.seq (.seq (.reg [⟨(some 15), .fieldAddr 27 (.tmp 2) 1, none⟩,
    ⟨(some 16), .load 3 (.tmp 15), none⟩,
    ⟨(some 17), .fieldAddr 27 (.tmp 3) 1, none⟩,
    ⟨(some 18), .load 3 (.tmp 17), none⟩,
    ⟨(some 19), .binOp .neq 3 (.tmp 16) (.tmp 18) 3, none⟩] [2, 3, 6, 19])
  (.cond (.tmp 19) (.reg [⟨(some 20), .move (.tmp 6), none⟩,
    ⟨(some 21), .binOp .add 3 (.tmp 20) (.const (.int .i64 1)) 3, none⟩,
    ⟨(some 6), .assign (.tmp 21), none⟩] [2, 3, 6])
  .skip))
  (.seq (.seq (.reg [⟨(some 22), .fieldAddr 27 (.tmp 2) 2, none⟩,
    ⟨(some 23), .load 3 (.tmp 22), none⟩,
    ⟨(some 24), .fieldAddr 27 (.tmp 3) 2, none⟩,
    ⟨(some 25), .load 3 (.tmp 24), none⟩,
    ⟨(some 26), .binOp .neq 3 (.tmp 23) (.tmp 25) 3, none⟩] [2, 3, 6, 26])
  (.cond (.tmp 26) (.reg [⟨(some 27), .move (.tmp 6), none⟩,
    ⟨(some 28), .binOp .add 3 (.tmp 27) (.const (.int .i64 2)) 3, none⟩,
    ⟨(some 6), .assign (.tmp 28), none⟩] [2, 3, 6])
  .skip))
  (.seq (.seq (.reg [⟨(some 29), .fieldAddr 27 (.tmp 2) 3, none⟩,
    ⟨(some 30), .load 3 (.tmp 29), none⟩,
    ⟨(some 31), .fieldAddr 27 (.tmp 3) 3, none⟩,
    ⟨(some 32), .load 3 (.tmp 31), none⟩,
    ⟨(some 33), .binOp .neq 3 (.tmp 30) (.tmp 32) 3, none⟩] [2, 3, 6, 33])
  (.cond (.tmp 33) (.reg [⟨(some 34), .move (.tmp 6), none⟩,
    ⟨(some 35), .binOp .add 3 (.tmp 34) (.const (.int .i64 4)) 3, none⟩,
    ⟨(some 6), .assign (.tmp 35), none⟩] [2, 3, 6])
  .skip))
  (.seq (.seq (.reg [⟨(some 36), .fieldAddr 27 (.tmp 2) 4, none⟩,
    ⟨(some 37), .load 3 (.tmp 36), none⟩,
    ⟨(some 38), .fieldAddr 27 (.tmp 3) 4, none⟩,
    ⟨(some 39), .load 3 (.tmp 38), none⟩,
    ⟨(some 40), .binOp .neq 3 (.tmp 37) (.tmp 39) 3, none⟩] [2, 3, 6, 40])
  (.cond (.tmp 40) (.reg [⟨(some 41), .move (.tmp 6), none⟩,
    ⟨(some 42), .binOp .add 3 (.tmp 41) (.const (.int .i64 8)) 3, none⟩,
    ⟨(some 6), .assign (.tmp 42), none⟩] [2, 3, 6])
  .skip))
  (.seq (.reg [⟨(some 43), .fieldAddr 27 (.tmp 3) 1, none⟩,
    ⟨(some 44), .load 3 (.tmp 43), none⟩,
    ⟨(some 45), .fieldAddr 27 (.tmp 2) 1, none⟩,
    ⟨none, .store 3 (.tmp 45) (.tmp 44), none⟩] [2, 3, 6])
  (.seq (.reg [⟨(some 46), .fieldAddr 27 (.tmp 3) 2, none⟩,
    ⟨(some 47), .load 3 (.tmp 46), none⟩,
    ⟨(some 48), .fieldAddr 27 (.tmp 2) 2, none⟩,
    ⟨none, .store 3 (.tmp 48) (.tmp 47), none⟩] [2, 3, 6])
  (.seq (.reg [⟨(some 49), .fieldAddr 27 (.tmp 3) 3, none⟩,
    ⟨(some 50), .load 3 (.tmp 49), none⟩,
    ⟨(some 51), .fieldAddr 27 (.tmp 2) 3, none⟩,
    ⟨none, .store 3 (.tmp 51) (.tmp 50), none⟩] [2, 3, 6])
  (.seq (.reg [⟨(some 52), .fieldAddr 27 (.tmp 3) 4, none⟩,
    ⟨(some 53), .load 3 (.tmp 52), none⟩,
    ⟨(some 54), .fieldAddr 27 (.tmp 2) 4, none⟩,
    ⟨none, .store 3 (.tmp 54) (.tmp 53), none⟩] [2, 3, 6])
  (.seq (.seq (.reg [⟨(some 55), .load 27 (.tmp 2), none⟩,
    ⟨(some 56), .load 27 (.tmp 3), none⟩,
    ⟨(some 57), .binOp .neq 27 (.tmp 55) (.tmp 56) 27, none⟩] [6, 57])
  (.cond (.tmp 57) (.seq (.reg [⟨(some 4), .assign (.const (.int .i64 0)), none⟩,
    ⟨(some 5), .assign (.const (.bool false)), none⟩] [4, 5])
  .ret)
  .skip))
  (.seq (.reg [⟨(some 58), .move (.tmp 6), none⟩,
    ⟨(some 4), .assign (.tmp 58), none⟩,
    ⟨(some 5), .assign (.const (.bool true)), none⟩] [4, 5])
  .ret)))))))))))))
theorem spec_ChangeOf_k : fnOk Try.prog (fun _ => false) 61 = some (spec_ChangeOf_c.strip, 59, [.tmp 4, .tmp 5]) := by kernel_rfl
/-- head: [0, 4, 10, 11, 12] -/
def impl_ChangeText_l0 : ACode := (.seq (.reg [⟨(some 13), .binOp .lss 3 (.tmp 12) (.tmp 11) 3, none⟩] [0, 4, 10, 11, 12, 13])
  (.seq (.cond (.tmp 13) .skip
  (.exit 0))
  (.seq (.block 1 (.seq (.reg [⟨(some 14), .move (.tmp 12), none⟩,
    ⟨(some 15), .indexAddr 104 (.tmp 10) (.tmp 12), none⟩,
    ⟨(some 16), .load 9 (.tmp 15), none⟩,
    ⟨(some 5), .assign (.tmp 14), none⟩,
    ⟨(some 6), .assign (.tmp 16), none⟩] [0, 4, 5, 6, 10, 11, 12])
  (.seq (.reg [⟨(some 17), .move (.tmp 0), none⟩,
    ⟨(some 18), .move (.tmp 5), none⟩,
    ⟨(some 19), .binOp .shr 3 (.tmp 17) (.tmp 18) 3, none⟩,
    ⟨(some 20), .binOp .and 3 (.tmp 19) (.const (.int .i64 1)) 3, none⟩,
    ⟨(some 21), .binOp .eql 3 (.tmp 20) (.const (.int .i64 1)) 3, none⟩] [0, 4, 6, 10, 11, 12, 21])
  (.cond (.tmp 21) (.reg [⟨(some 22), .move (.tmp 4), none⟩,
    ⟨(some 23), .move (.tmp 6), none⟩,
    ⟨(some 24), .buildSlice 104 1 #[(0, (.tmp 23))], none⟩,
    ⟨(some 25), .call ⟨.builtin .append, #[(.tmp 22), (.tmp 24)], #[104, 104]⟩, none⟩,
    ⟨(some 4), .assign (.tmp 25), none⟩] [0, 4, 10, 11, 12])
  .skip))))
  (.reg [⟨(some 26), .binOp .add 3 (.tmp 12) (.const (.int .i64 1)) 3, none⟩,
    ⟨(some 12), .move (.tmp 26), none⟩] [0, 4, 10, 11, 12]))))
/-- loop.example/g01062/impl.ChangeText: number 65, params [0] -/
def impl_ChangeText_c : ACode := (.seq (.reg [⟨(some 2), .assign (.const (.string ⟨#[]⟩)), none⟩,
    ⟨(some 3), .assign (.const (.bool false)), none⟩] [0])
  (.seq (.seq (.reg [⟨(some 7), .move (.tmp 0), none⟩,
    ⟨(some 8), .call ⟨.value (.func 90), #[(.tmp 7), (.const (.int .i64 0)), (.const (.int .i64 15))], #[3, 3, 3]⟩, none⟩,
    ⟨(some 9), .unOp .not 4 (.tmp 8), none⟩] [0, 9])
  (.cond (.tmp 9) (.seq (.reg [⟨(some 2), .assign (.const (.string ⟨#[]⟩)), none⟩,
    ⟨(some 3), .assign (.const (.bool false)), none⟩] [2, 3])
  .ret)
  .skip))
  (.seq (.reg [⟨(some 4), .assign (.const (.slice none 0 0)), none⟩] [0, 4])
  (.seq (.seq (.reg [⟨(some 10), .buildSlice 104 4 #[(0, (.const (.string ⟨#[100, 97, 121]⟩))), (1, (.const (.string ⟨#[122, 111, 110, 101]⟩))), (2, (.const (.string ⟨#[103, 114, 97, 109, 115]⟩))), (3, (.const (.string ⟨#[112, 97, 105, 100]⟩)))], none⟩,
    ⟨(some 11), .call ⟨.builtin .len, #[(.tmp 10)], #[104]⟩, none⟩,
    ⟨(some 12), .move (.const (.int .i64 0)), none⟩] [0, 4, 10, 11, 12])
  (.block 0 (.loop impl_ChangeText_l0)))
  (.seq (.seq (.reg [⟨(some 27), .move (.tmp 4), none⟩,
    ⟨(some 28), .call ⟨.builtin .len, #[(.tmp 27)], #[104]⟩, none⟩,
    ⟨(some 29), .binOp .eql 3 (.tmp 28) (.const (.int .i64 0)) 3, none⟩] [4, 29])
  (.cond (.tmp 29) (.seq (.reg [⟨(some 2), .assign (.const (.string ⟨#[110, 111, 110, 101]⟩)), none⟩,
    ⟨(some 3), .assign (.const (.bool true)), none⟩] [2, 3])
  .ret)
  .skip))
  (.seq (.reg [⟨(some 30), .move (.tmp 4), none⟩,
    ⟨(some 31), .call ⟨.value (.func 119), #[(.tmp 30), (.const (.string ⟨#[43]⟩))], #[104, 9]⟩, none⟩,
    ⟨(some 2), .assign (.tmp 31), none⟩,
    ⟨(some 3), .assign (.const (.bool true)), none⟩] [2, 3])
  .ret))))))
theorem impl_ChangeText_k : fnOk Try.prog (fun _ => false) 65 = some (impl_ChangeText_c.strip, 32, [.tmp 2, .tmp 3]) := by kernel_rfl
/-- head: [0, 4, 5] -/
def spec_ChangeText_l0 : ACode := (.seq (.seq (.reg [⟨(some 9), .move (.tmp 5), none⟩,
    ⟨(some 10), .binOp .lss 3 (.tmp 9) (.const (.int .i64 4)) 3, none⟩] [0, 4, 5, 10])
  (.cond (.tmp 10) .skip
  (.exit 0)))
  (.seq (.block 1 (.seq (.seq (.reg [⟨(some 13), .move (.tmp 0), none⟩,
    ⟨(some 14), .buildSlice 33 4 #[(0, (.const (.int .i64 1))), (1, (.const (.int .i64 2))), (2, (.const (.int .i64 4))), (3, (.const (.int .i64 8)))], none⟩,
    ⟨(some 15), .move (.tmp 5), none⟩,
    ⟨(some 16), .indexAddr 33 (.tmp 14) (.tmp 15), none⟩,
    ⟨(some 17), .load 3 (.tmp 16), none⟩,
    ⟨(some 18), .call ⟨.value (.func 105), #[(.tmp 13), (.tmp 17)], #[3, 3]⟩, none⟩,
    ⟨(some 19), .unOp .not 4 (.tmp 18), none⟩] [0, 4, 5, 19])
  (.cond (.tmp 19) (.exit 1)
  .skip))
  (.seq (.seq (.reg [⟨(some 20), .move (.tmp 4), none⟩,
    ⟨(some 21), .binOp .neq 9 (.tmp 20) (.const (.string ⟨#[]⟩)) 9, none⟩] [0, 4, 5, 21])
  (.cond (.tmp 21) (.reg [⟨(some 22), .move (.tmp 4), none⟩,
    ⟨(some 23), .binOp .add 9 (.tmp 22) (.const (.string ⟨#[43]⟩)) 9, none⟩,
    ⟨(some 4), .assign (.tmp 23), none⟩] [0, 4, 5])
  .skip))
  (.reg [⟨(some 24), .move (.tmp 4), none⟩,
    ⟨(some 25), .buildSlice 104 4 #[(0, (.const (.string ⟨#[100, 97, 121]⟩))), (1, (.const (.string ⟨#[122, 111, 110, 101]⟩))), (2, (.const (.string ⟨#[103, 114, 97, 109, 115]⟩))), (3, (.const (.string ⟨#[112, 97, 105, 100]⟩)))], none⟩,
    ⟨(some 26), .move (.tmp 5), none⟩,
    ⟨(some 27), .indexAddr 104 (.tmp 25) (.tmp 26), none⟩,
    ⟨(some 28), .load 9 (.tmp 27), none⟩,
    ⟨(some 29), .binOp .add 9 (.tmp 24) (.tmp 28) 9, none⟩,
    ⟨(some 4), .assign (.tmp 29), none⟩] [0, 4, 5]))))
  (.reg [⟨(some 11), .move (.tmp 5), none⟩,
    ⟨(some 12), .binOp .add 3 (.tmp 11) (.const (.int .i64 1)) 3, none⟩,
    ⟨(some 5), .assign (.tmp 12), none⟩] [0, 4, 5])))
/-- loop.example/g01062/spec.ChangeText: number 66, params [0] -/
def spec_ChangeText_c : ACode := (.seq (.reg [⟨(some 2), .assign (.const (.string ⟨#[]⟩)), none⟩,
    ⟨(some 3), .assign (.const (.bool false)), none⟩] [0])
  (.seq (.seq (.reg [⟨(some 6), .move (.tmp 0), none⟩,
    ⟨(some 7), .call ⟨.value (.func 91), #[(.tmp 6), (.const (.int .i64 0)), (.const (.int .i64 15))], #[3, 3, 3]⟩, none⟩,
    ⟨(some 8), .unOp .not 4 (.tmp 7), none⟩] [0, 8])
  (.cond (.tmp 8) (.seq (.reg [⟨(some 2), .assign (.const (.string ⟨#[]⟩)), none⟩,
    ⟨(some 3), .assign (.const (.bool false)), none⟩] [2, 3])
  .ret)
  .skip))
  (.seq (.reg [⟨(some 4), .assign (.const (.string ⟨#[]⟩)), none⟩] [0, 4])
  (.seq (.seq (.reg [⟨(some 5), .assign (.const (.int .i64 0)), none⟩] [0, 4, 5])
  (.block 0 (.loop spec_ChangeText_l0)))
  (.seq (.seq (.reg [⟨(some 30), .move (.tmp 4), none⟩,
    ⟨(some 31), .binOp .eql 9 (.tmp 30) (.const (.string ⟨#[]⟩)) 9, none⟩] [4, 31])
  (.cond (.tmp 31) (.seq (.reg [⟨(some 2), .assign (.const (.string ⟨#[110, 111, 110, 101]⟩)), none⟩,
    ⟨(some 3), .assign (.const (.bool true)), none⟩] [2, 3])
  .ret)
  .skip))
  (.seq (.reg [⟨(some 32), .move (.tmp 4), none⟩,
    ⟨(some 2), .assign (.tmp 32), none⟩,
    ⟨(some 3), .assign (.const (.bool true)), none⟩] [2, 3])
  .ret))))))
theorem spec_ChangeText_k : fnOk Try.prog (fun _ => false) 66 = some (spec_ChangeText_c.strip, 33, [.tmp 2, .tmp 3]) := by kernel_rfl
end Go.Proofs.Ytjiffkjeijfilaa

