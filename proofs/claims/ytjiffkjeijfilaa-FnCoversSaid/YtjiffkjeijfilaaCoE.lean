/- Printed by a program of ours: the functions' abstract code and facts on their types. -/
import Derived.Test.YtjiffkjeijfilaaCoC
set_option maxRecDepth 8000
namespace Go.Proofs.Ytjiffkjeijfilaa
open Go Go.RowKit

/-- loop.example/g01062/impl.FaultOf: number 10, params [0, 1, 2] -/
def impl_FaultOf_c : ACode := (.seq (.reg [⟨(some 5), .box 27 (.tmp 2), none⟩,
    ⟨(some 6), .assign (.const (.int .i64 0)), none⟩,
    ⟨(some 7), .assign (.const (.bool false)), none⟩] [0, 1, 5])
  (.seq (.seq (.reg [⟨(some 8), .move (.tmp 0), none⟩,
    ⟨(some 9), .call ⟨.value (.func 70), #[(.tmp 8)], #[24]⟩, none⟩,
    ⟨(some 10), .unOp .not 4 (.tmp 9), none⟩,
    ⟨(some 11), .move (.tmp 10), none⟩,
    ⟨(some 12), .move (.tmp 1), (some (some 11, false))⟩,
    ⟨(some 13), .call ⟨.value (.func 71), #[(.tmp 12)], #[25]⟩, (some (some 11, false))⟩,
    ⟨(some 14), .unOp .not 4 (.tmp 13), (some (some 11, false))⟩,
    ⟨(some 15), .pick (.tmp 11) (.const (.bool true)) (.tmp 14), none⟩,
    ⟨(some 16), .move (.tmp 15), none⟩,
    ⟨(some 17), .load 27 (.tmp 5), (some (some 16, false))⟩,
    ⟨(some 18), .call ⟨.value (.func 72), #[(.tmp 17)], #[27]⟩, (some (some 16, false))⟩,
    ⟨(some 19), .unOp .not 4 (.tmp 18), (some (some 16, false))⟩,
    ⟨(some 20), .pick (.tmp 16) (.const (.bool true)) (.tmp 19), none⟩] [0, 1, 5, 20])
  (.cond (.tmp 20) (.seq (.reg [⟨(some 6), .assign (.const (.int .i64 0)), none⟩,
    ⟨(some 7), .assign (.const (.bool false)), none⟩] [6, 7])
  .ret)
  .skip))
  (.seq (.reg [⟨(some 21), .move (.tmp 0), none⟩,
    ⟨(some 22), .move (.tmp 1), none⟩,
    ⟨(some 23), .load 27 (.tmp 5), none⟩,
    ⟨(some 24), .call ⟨.value (.func 73), #[(.tmp 21), (.tmp 22), (.tmp 23)], #[24, 25, 27]⟩, none⟩,
    ⟨(some 6), .assign (.tmp 24), none⟩,
    ⟨(some 7), .assign (.const (.bool true)), none⟩] [6, 7])
  .ret)))
theorem impl_FaultOf_k : fnOk Try.prog (fun _ => false) 10 = some (impl_FaultOf_c.strip, 25, [.tmp 6, .tmp 7]) := by kernel_rfl
/-- loop.example/g01062/spec.FaultOf: number 11, params [0, 1, 2] -/
def spec_FaultOf_c : ACode := (.seq (.reg [⟨(some 5), .box 27 (.tmp 2), none⟩,
    ⟨(some 6), .assign (.const (.int .i64 0)), none⟩,
    ⟨(some 7), .assign (.const (.bool false)), none⟩] [0, 1, 5])
  (.seq (.seq (.reg [⟨(some 8), .move (.tmp 0), none⟩,
    ⟨(some 9), .call ⟨.value (.func 74), #[(.tmp 8)], #[24]⟩, none⟩,
    ⟨(some 10), .unOp .not 4 (.tmp 9), none⟩,
    ⟨(some 11), .move (.tmp 10), none⟩,
    ⟨(some 12), .move (.tmp 1), (some (some 11, false))⟩,
    ⟨(some 13), .call ⟨.value (.func 75), #[(.tmp 12)], #[25]⟩, (some (some 11, false))⟩,
    ⟨(some 14), .unOp .not 4 (.tmp 13), (some (some 11, false))⟩,
    ⟨(some 15), .pick (.tmp 11) (.const (.bool true)) (.tmp 14), none⟩,
    ⟨(some 16), .move (.tmp 15), none⟩,
    ⟨(some 17), .load 27 (.tmp 5), (some (some 16, false))⟩,
    ⟨(some 18), .call ⟨.value (.func 76), #[(.tmp 17)], #[27]⟩, (some (some 16, false))⟩,
    ⟨(some 19), .unOp .not 4 (.tmp 18), (some (some 16, false))⟩,
    ⟨(some 20), .pick (.tmp 16) (.const (.bool true)) (.tmp 19), none⟩] [0, 1, 5, 20])
  (.cond (.tmp 20) (.seq (.reg [⟨(some 6), .assign (.const (.int .i64 0)), none⟩,
    ⟨(some 7), .assign (.const (.bool false)), none⟩] [6, 7])
  .ret)
  .skip))
  (.seq (.reg [⟨(some 21), .move (.tmp 0), none⟩,
    ⟨(some 22), .move (.tmp 1), none⟩,
    ⟨(some 23), .load 27 (.tmp 5), none⟩,
    ⟨(some 24), .call ⟨.value (.func 77), #[(.tmp 21), (.tmp 22), (.tmp 23)], #[24, 25, 27]⟩, none⟩,
    ⟨(some 6), .assign (.tmp 24), none⟩,
    ⟨(some 7), .assign (.const (.bool true)), none⟩] [6, 7])
  .ret)))
theorem spec_FaultOf_k : fnOk Try.prog (fun _ => false) 11 = some (spec_FaultOf_c.strip, 25, [.tmp 6, .tmp 7]) := by kernel_rfl
/-- loop.example/g01062/impl.DueOn: number 12, params [0, 1] -/
def impl_DueOn_c : ACode := (.seq (.reg [⟨(some 3), .box 27 (.tmp 1), none⟩,
    ⟨(some 4), .assign (.const (.int .i64 0)), none⟩,
    ⟨(some 5), .assign (.const (.bool false)), none⟩] [0, 3])
  (.seq (.seq (.reg [⟨(some 8), .move (.tmp 0), none⟩,
    ⟨(some 9), .call ⟨.value (.func 70), #[(.tmp 8)], #[24]⟩, none⟩,
    ⟨(some 10), .unOp .not 4 (.tmp 9), none⟩,
    ⟨(some 11), .move (.tmp 10), none⟩,
    ⟨(some 12), .load 27 (.tmp 3), (some (some 11, false))⟩,
    ⟨(some 13), .call ⟨.value (.func 72), #[(.tmp 12)], #[27]⟩, (some (some 11, false))⟩,
    ⟨(some 14), .unOp .not 4 (.tmp 13), (some (some 11, false))⟩,
    ⟨(some 15), .pick (.tmp 11) (.const (.bool true)) (.tmp 14), none⟩] [0, 3, 15])
  (.cond (.tmp 15) (.seq (.reg [⟨(some 4), .assign (.const (.int .i64 0)), none⟩,
    ⟨(some 5), .assign (.const (.bool false)), none⟩] [4, 5])
  .ret)
  .skip))
  (.seq (.reg [⟨(some 17), .move (.tmp 0), none⟩,
    ⟨(some 18), .fieldAddr 27 (.tmp 3) 1, none⟩,
    ⟨(some 19), .load 3 (.tmp 18), none⟩,
    ⟨(some 20), .fieldAddr 27 (.tmp 3) 2, none⟩,
    ⟨(some 21), .load 3 (.tmp 20), none⟩,
    ⟨(some 22), .fieldAddr 27 (.tmp 3) 3, none⟩,
    ⟨(some 23), .load 3 (.tmp 22), none⟩,
    ⟨(some 24), .call ⟨.value (.func 78), #[(.tmp 17), (.tmp 19), (.tmp 21), (.tmp 23)], #[24, 3, 3, 3]⟩, none⟩,
    ⟨(some 16), .move (.tmp 24), none⟩,
    ⟨(some 25), .extract (.tmp 16) 0, none⟩,
    ⟨(some 26), .extract (.tmp 16) 1, none⟩,
    ⟨(some 6), .assign (.tmp 25), none⟩,
    ⟨(some 7), .assign (.tmp 26), none⟩] [3, 6, 7])
  (.seq (.seq (.reg [⟨(some 27), .move (.tmp 7), none⟩,
    ⟨(some 28), .unOp .not 4 (.tmp 27), none⟩] [3, 6, 28])
  (.cond (.tmp 28) (.seq (.reg [⟨(some 4), .assign (.const (.int .i64 0)), none⟩,
    ⟨(some 5), .assign (.const (.bool false)), none⟩] [4, 5])
  .ret)
  .skip))
  (.seq (.reg [⟨(some 29), .move (.tmp 6), none⟩,
    ⟨(some 30), .fieldAddr 27 (.tmp 3) 4, none⟩,
    ⟨(some 31), .load 3 (.tmp 30), none⟩,
    ⟨(some 32), .binOp .sub 3 (.tmp 29) (.tmp 31) 3, none⟩,
    ⟨(some 33), .call ⟨.builtin .max, #[(.tmp 32), (.const (.int .i64 0))], #[3, 3]⟩, none⟩,
    ⟨(some 34), .binOp .mul 3 (.const (.int .i64 2)) (.tmp 33) 3, none⟩,
    ⟨(some 4), .assign (.tmp 34), none⟩,
    ⟨(some 5), .assign (.const (.bool true)), none⟩] [4, 5])
  .ret)))))
theorem impl_DueOn_k : fnOk Try.prog (fun _ => false) 12 = some (impl_DueOn_c.strip, 35, [.tmp 4, .tmp 5]) := by kernel_rfl
/-- loop.example/g01062/spec.DueOn: number 13, params [0, 1] -/
def spec_DueOn_c : ACode := (.seq (.reg [⟨(some 3), .box 27 (.tmp 1), none⟩,
    ⟨(some 4), .assign (.const (.int .i64 0)), none⟩,
    ⟨(some 5), .assign (.const (.bool false)), none⟩] [0, 3])
  (.seq (.seq (.reg [⟨(some 7), .move (.tmp 0), none⟩,
    ⟨(some 8), .call ⟨.value (.func 74), #[(.tmp 7)], #[24]⟩, none⟩,
    ⟨(some 9), .unOp .not 4 (.tmp 8), none⟩,
    ⟨(some 10), .move (.tmp 9), none⟩,
    ⟨(some 11), .load 27 (.tmp 3), (some (some 10, false))⟩,
    ⟨(some 12), .call ⟨.value (.func 76), #[(.tmp 11)], #[27]⟩, (some (some 10, false))⟩,
    ⟨(some 13), .unOp .not 4 (.tmp 12), (some (some 10, false))⟩,
    ⟨(some 14), .pick (.tmp 10) (.const (.bool true)) (.tmp 13), none⟩] [0, 3, 14])
  (.cond (.tmp 14) (.seq (.reg [⟨(some 4), .assign (.const (.int .i64 0)), none⟩,
    ⟨(some 5), .assign (.const (.bool false)), none⟩] [4, 5])
  .ret)
  .skip))
  (.seq (.reg [⟨(some 15), .move (.tmp 0), none⟩,
    ⟨(some 16), .fieldAddr 27 (.tmp 3) 1, none⟩,
    ⟨(some 17), .load 3 (.tmp 16), none⟩,
    ⟨(some 18), .fieldAddr 27 (.tmp 3) 2, none⟩,
    ⟨(some 19), .load 3 (.tmp 18), none⟩,
    ⟨(some 20), .fieldAddr 27 (.tmp 3) 3, none⟩,
    ⟨(some 21), .load 3 (.tmp 20), none⟩,
    ⟨(some 22), .call ⟨.value (.func 79), #[(.tmp 15), (.tmp 17), (.tmp 19), (.tmp 21)], #[24, 3, 3, 3]⟩, none⟩,
    ⟨(some 6), .assign (.tmp 22), none⟩] [3, 6])
  (.seq (.seq (.reg [⟨(some 23), .move (.tmp 6), none⟩,
    ⟨(some 24), .binOp .eql 3 (.tmp 23) (.const (.int .i64 0)) 3, none⟩] [3, 6, 24])
  (.cond (.tmp 24) (.seq (.reg [⟨(some 4), .assign (.const (.int .i64 0)), none⟩,
    ⟨(some 5), .assign (.const (.bool false)), none⟩] [4, 5])
  .ret)
  .skip))
  (.seq (.reg [⟨(some 25), .move (.tmp 6), none⟩,
    ⟨(some 26), .fieldAddr 27 (.tmp 3) 4, none⟩,
    ⟨(some 27), .load 3 (.tmp 26), none⟩,
    ⟨(some 28), .binOp .sub 3 (.tmp 25) (.tmp 27) 3, none⟩,
    ⟨(some 29), .call ⟨.value (.func 80), #[(.const (.int .i64 0)), (.tmp 28)], #[3, 3]⟩, none⟩,
    ⟨(some 30), .binOp .mul 3 (.const (.int .i64 2)) (.tmp 29) 3, none⟩,
    ⟨(some 4), .assign (.tmp 30), none⟩,
    ⟨(some 5), .assign (.const (.bool true)), none⟩] [4, 5])
  .ret)))))
theorem spec_DueOn_k : fnOk Try.prog (fun _ => false) 13 = some (spec_DueOn_c.strip, 31, [.tmp 4, .tmp 5]) := by kernel_rfl
/-- loop.example/g01062/impl.RouteOn: number 14, params [0, 1] -/
def impl_RouteOn_c : ACode := (.seq (.reg [⟨(some 3), .box 27 (.tmp 1), none⟩,
    ⟨(some 4), .assign (.const (.slice none 0 0)), none⟩,
    ⟨(some 5), .assign (.const (.bool false)), none⟩] [0, 3])
  (.seq (.seq (.reg [⟨(some 6), .move (.tmp 0), none⟩,
    ⟨(some 7), .call ⟨.value (.func 71), #[(.tmp 6)], #[25]⟩, none⟩,
    ⟨(some 8), .unOp .not 4 (.tmp 7), none⟩,
    ⟨(some 9), .move (.tmp 8), none⟩,
    ⟨(some 10), .load 27 (.tmp 3), (some (some 9, false))⟩,
    ⟨(some 11), .call ⟨.value (.func 72), #[(.tmp 10)], #[27]⟩, (some (some 9, false))⟩,
    ⟨(some 12), .unOp .not 4 (.tmp 11), (some (some 9, false))⟩,
    ⟨(some 13), .pick (.tmp 9) (.const (.bool true)) (.tmp 12), none⟩] [0, 3, 13])
  (.cond (.tmp 13) (.seq (.reg [⟨(some 4), .assign (.const (.slice none 0 0)), none⟩,
    ⟨(some 5), .assign (.const (.bool false)), none⟩] [4, 5])
  .ret)
  .skip))
  (.seq (.reg [⟨(some 14), .move (.tmp 0), none⟩,
    ⟨(some 15), .load 27 (.tmp 3), none⟩,
    ⟨(some 16), .call ⟨.value (.func 81), #[(.tmp 14), (.tmp 15)], #[25, 27]⟩, none⟩,
    ⟨(some 17), .extract (.tmp 16) 0, none⟩,
    ⟨(some 18), .extract (.tmp 16) 1, none⟩,
    ⟨(some 4), .assign (.tmp 17), none⟩,
    ⟨(some 5), .assign (.tmp 18), none⟩] [4, 5])
  .ret)))
theorem impl_RouteOn_k : fnOk Try.prog (fun _ => false) 14 = some (impl_RouteOn_c.strip, 19, [.tmp 4, .tmp 5]) := by kernel_rfl
/-- loop.example/g01062/spec.RouteOn: number 15, params [0, 1] -/
def spec_RouteOn_c : ACode := (.seq (.reg [⟨(some 3), .box 27 (.tmp 1), none⟩,
    ⟨(some 4), .assign (.const (.slice none 0 0)), none⟩,
    ⟨(some 5), .assign (.const (.bool false)), none⟩] [0, 3])
  (.seq (.seq (.reg [⟨(some 8), .move (.tmp 0), none⟩,
    ⟨(some 9), .call ⟨.value (.func 75), #[(.tmp 8)], #[25]⟩, none⟩,
    ⟨(some 10), .unOp .not 4 (.tmp 9), none⟩,
    ⟨(some 11), .move (.tmp 10), none⟩,
    ⟨(some 12), .load 27 (.tmp 3), (some (some 11, false))⟩,
    ⟨(some 13), .call ⟨.value (.func 76), #[(.tmp 12)], #[27]⟩, (some (some 11, false))⟩,
    ⟨(some 14), .unOp .not 4 (.tmp 13), (some (some 11, false))⟩,
    ⟨(some 15), .pick (.tmp 11) (.const (.bool true)) (.tmp 14), none⟩] [0, 3, 15])
  (.cond (.tmp 15) (.seq (.reg [⟨(some 16), .buildSlice 33 0 #[], none⟩,
    ⟨(some 4), .assign (.tmp 16), none⟩,
    ⟨(some 5), .assign (.const (.bool false)), none⟩] [4, 5])
  .ret)
  .skip))
  (.seq (.reg [⟨(some 18), .move (.tmp 0), none⟩,
    ⟨(some 19), .load 27 (.tmp 3), none⟩,
    ⟨(some 20), .call ⟨.value (.func 82), #[(.tmp 18), (.tmp 19)], #[25, 27]⟩, none⟩,
    ⟨(some 17), .move (.tmp 20), none⟩,
    ⟨(some 21), .extract (.tmp 17) 0, none⟩,
    ⟨(some 22), .extract (.tmp 17) 1, none⟩,
    ⟨(some 6), .assign (.tmp 21), none⟩,
    ⟨(some 7), .assign (.tmp 22), none⟩] [6, 7])
  (.seq (.reg [⟨(some 23), .move (.tmp 6), none⟩,
    ⟨(some 24), .move (.tmp 7), none⟩,
    ⟨(some 4), .assign (.tmp 23), none⟩,
    ⟨(some 5), .assign (.tmp 24), none⟩] [4, 5])
  .ret))))
theorem spec_RouteOn_k : fnOk Try.prog (fun _ => false) 15 = some (spec_RouteOn_c.strip, 25, [.tmp 4, .tmp 5]) := by kernel_rfl
/-- loop.example/g01062/impl.EndOfRoute: number 17, params [0, 1, 2, 3] -/
def impl_EndOfRoute_c : ACode := (.seq (.reg [⟨(some 8), .assign (.const (.int .i64 0)), none⟩,
    ⟨(some 9), .assign (.const (.int .i64 0)), none⟩,
    ⟨(some 10), .assign (.const (.bool false)), none⟩] [0, 1, 2, 3])
  (.seq (.seq (.reg [⟨(some 11), .move (.tmp 0), none⟩,
    ⟨(some 12), .call ⟨.value (.func 71), #[(.tmp 11)], #[25]⟩, none⟩,
    ⟨(some 13), .unOp .not 4 (.tmp 12), none⟩,
    ⟨(some 14), .move (.tmp 13), none⟩,
    ⟨(some 15), .move (.tmp 1), (some (some 14, false))⟩,
    ⟨(some 16), .call ⟨.value (.func 83), #[(.tmp 15)], #[3]⟩, (some (some 14, false))⟩,
    ⟨(some 17), .unOp .not 4 (.tmp 16), (some (some 14, false))⟩,
    ⟨(some 18), .pick (.tmp 14) (.const (.bool true)) (.tmp 17), none⟩,
    ⟨(some 19), .move (.tmp 18), none⟩,
    ⟨(some 20), .move (.tmp 2), (some (some 19, false))⟩,
    ⟨(some 21), .call ⟨.value (.func 84), #[(.tmp 20)], #[3]⟩, (some (some 19, false))⟩,
    ⟨(some 22), .unOp .not 4 (.tmp 21), (some (some 19, false))⟩,
    ⟨(some 23), .pick (.tmp 19) (.const (.bool true)) (.tmp 22), none⟩] [0, 1, 2, 3, 23])
  (.cond (.tmp 23) (.seq (.reg [⟨(some 8), .assign (.const (.int .i64 0)), none⟩,
    ⟨(some 9), .assign (.const (.int .i64 0)), none⟩,
    ⟨(some 10), .assign (.const (.bool false)), none⟩] [8, 9, 10])
  .ret)
  .skip))
  (.seq (.reg [⟨(some 24), .move (.tmp 0), none⟩,
    ⟨(some 25), .move (.tmp 1), none⟩,
    ⟨(some 26), .move (.tmp 2), none⟩,
    ⟨(some 27), .move (.tmp 3), none⟩,
    ⟨(some 28), .call ⟨.value (.func 85), #[(.tmp 24), (.tmp 25), (.tmp 26), (.tmp 27)], #[25, 3, 3, 33]⟩, none⟩,
    ⟨(some 29), .extract (.tmp 28) 0, none⟩,
    ⟨(some 30), .extract (.tmp 28) 1, none⟩,
    ⟨(some 31), .extract (.tmp 28) 2, none⟩,
    ⟨(some 8), .assign (.tmp 29), none⟩,
    ⟨(some 9), .assign (.tmp 30), none⟩,
    ⟨(some 10), .assign (.tmp 31), none⟩] [8, 9, 10])
  .ret)))
theorem impl_EndOfRoute_k : fnOk Try.prog (fun _ => false) 17 = some (impl_EndOfRoute_c.strip, 32, [.tmp 8, .tmp 9, .tmp 10]) := by kernel_rfl
/-- loop.example/g01062/impl.SpareMinutes: number 18, params [0, 1] -/
def impl_SpareMinutes_c : ACode := (.seq (.reg [⟨(some 3), .box 27 (.tmp 1), none⟩,
    ⟨(some 4), .assign (.const (.int .i64 0)), none⟩,
    ⟨(some 5), .assign (.const (.bool false)), none⟩] [0, 3])
  (.seq (.seq (.reg [⟨(some 8), .move (.tmp 0), none⟩,
    ⟨(some 9), .call ⟨.value (.func 71), #[(.tmp 8)], #[25]⟩, none⟩,
    ⟨(some 10), .unOp .not 4 (.tmp 9), none⟩,
    ⟨(some 11), .move (.tmp 10), none⟩,
    ⟨(some 12), .load 27 (.tmp 3), (some (some 11, false))⟩,
    ⟨(some 13), .call ⟨.value (.func 72), #[(.tmp 12)], #[27]⟩, (some (some 11, false))⟩,
    ⟨(some 14), .unOp .not 4 (.tmp 13), (some (some 11, false))⟩,
    ⟨(some 15), .pick (.tmp 11) (.const (.bool true)) (.tmp 14), none⟩] [0, 3, 15])
  (.cond (.tmp 15) (.seq (.reg [⟨(some 4), .assign (.const (.int .i64 0)), none⟩,
    ⟨(some 5), .assign (.const (.bool false)), none⟩] [4, 5])
  .ret)
  .skip))
  (.seq (.reg [⟨(some 17), .move (.tmp 0), none⟩,
    ⟨(some 18), .fieldAddr 27 (.tmp 3) 5, none⟩,
    ⟨(some 19), .load 3 (.tmp 18), none⟩,
    ⟨(some 20), .fieldAddr 27 (.tmp 3) 6, none⟩,
    ⟨(some 21), .load 3 (.tmp 20), none⟩,
    ⟨(some 22), .fieldAddr 27 (.tmp 3) 8, none⟩,
    ⟨(some 23), .load 3 (.tmp 22), none⟩,
    ⟨(some 24), .call ⟨.value (.func 86), #[(.tmp 17), (.tmp 19), (.tmp 21), (.tmp 23)], #[25, 3, 3, 3]⟩, none⟩,
    ⟨(some 16), .move (.tmp 24), none⟩,
    ⟨(some 25), .extract (.tmp 16) 0, none⟩,
    ⟨(some 26), .extract (.tmp 16) 1, none⟩,
    ⟨(some 6), .assign (.tmp 25), none⟩,
    ⟨(some 7), .assign (.tmp 26), none⟩] [3, 6, 7])
  (.seq (.seq (.reg [⟨(some 27), .move (.tmp 7), none⟩,
    ⟨(some 28), .unOp .not 4 (.tmp 27), none⟩,
    ⟨(some 29), .move (.tmp 28), none⟩,
    ⟨(some 30), .move (.tmp 6), (some (some 29, false))⟩,
    ⟨(some 31), .fieldAddr 27 (.tmp 3) 7, (some (some 29, false))⟩,
    ⟨(some 32), .load 3 (.tmp 31), (some (some 29, false))⟩,
    ⟨(some 33), .binOp .lss 3 (.tmp 30) (.tmp 32) 3, (some (some 29, false))⟩,
    ⟨(some 34), .pick (.tmp 29) (.const (.bool true)) (.tmp 33), none⟩] [3, 6, 34])
  (.cond (.tmp 34) (.seq (.reg [⟨(some 4), .assign (.const (.int .i64 0)), none⟩,
    ⟨(some 5), .assign (.const (.bool false)), none⟩] [4, 5])
  .ret)
  .skip))
  (.seq (.reg [⟨(some 35), .move (.tmp 6), none⟩,
    ⟨(some 36), .fieldAddr 27 (.tmp 3) 7, none⟩,
    ⟨(some 37), .load 3 (.tmp 36), none⟩,
    ⟨(some 38), .binOp .sub 3 (.tmp 35) (.tmp 37) 3, none⟩,
    ⟨(some 4), .assign (.tmp 38), none⟩,
    ⟨(some 5), .assign (.const (.bool true)), none⟩] [4, 5])
  .ret)))))
theorem impl_SpareMinutes_k : fnOk Try.prog (fun _ => false) 18 = some (impl_SpareMinutes_c.strip, 39, [.tmp 4, .tmp 5]) := by kernel_rfl
/-- loop.example/g01062/spec.SpareMinutes: number 19, params [0, 1] -/
def spec_SpareMinutes_c : ACode := (.seq (.reg [⟨(some 3), .box 27 (.tmp 1), none⟩,
    ⟨(some 4), .assign (.const (.int .i64 0)), none⟩,
    ⟨(some 5), .assign (.const (.bool false)), none⟩] [0, 3])
  (.seq (.seq (.reg [⟨(some 8), .move (.tmp 0), none⟩,
    ⟨(some 9), .call ⟨.value (.func 75), #[(.tmp 8)], #[25]⟩, none⟩,
    ⟨(some 10), .unOp .not 4 (.tmp 9), none⟩,
    ⟨(some 11), .move (.tmp 10), none⟩,
    ⟨(some 12), .load 27 (.tmp 3), (some (some 11, false))⟩,
    ⟨(some 13), .call ⟨.value (.func 76), #[(.tmp 12)], #[27]⟩, (some (some 11, false))⟩,
    ⟨(some 14), .unOp .not 4 (.tmp 13), (some (some 11, false))⟩,
    ⟨(some 15), .pick (.tmp 11) (.const (.bool true)) (.tmp 14), none⟩] [0, 3, 15])
  (.cond (.tmp 15) (.seq (.reg [⟨(some 4), .assign (.const (.int .i64 0)), none⟩,
    ⟨(some 5), .assign (.const (.bool false)), none⟩] [4, 5])
  .ret)
  .skip))
  (.seq (.reg [⟨(some 17), .move (.tmp 0), none⟩,
    ⟨(some 18), .fieldAddr 27 (.tmp 3) 5, none⟩,
    ⟨(some 19), .load 3 (.tmp 18), none⟩,
    ⟨(some 20), .fieldAddr 27 (.tmp 3) 6, none⟩,
    ⟨(some 21), .load 3 (.tmp 20), none⟩,
    ⟨(some 22), .fieldAddr 27 (.tmp 3) 8, none⟩,
    ⟨(some 23), .load 3 (.tmp 22), none⟩,
    ⟨(some 24), .call ⟨.value (.func 87), #[(.tmp 17), (.tmp 19), (.tmp 21), (.tmp 23)], #[25, 3, 3, 3]⟩, none⟩,
    ⟨(some 16), .move (.tmp 24), none⟩,
    ⟨(some 25), .extract (.tmp 16) 0, none⟩,
    ⟨(some 26), .extract (.tmp 16) 1, none⟩,
    ⟨(some 6), .assign (.tmp 25), none⟩,
    ⟨(some 7), .assign (.tmp 26), none⟩] [3, 6, 7])
  (.seq (.seq (.reg [⟨(some 27), .move (.tmp 7), none⟩,
    ⟨(some 28), .unOp .not 4 (.tmp 27), none⟩,
    ⟨(some 29), .move (.tmp 28), none⟩,
    ⟨(some 30), .move (.tmp 6), (some (some 29, false))⟩,
    ⟨(some 31), .fieldAddr 27 (.tmp 3) 7, (some (some 29, false))⟩,
    ⟨(some 32), .load 3 (.tmp 31), (some (some 29, false))⟩,
    ⟨(some 33), .binOp .lss 3 (.tmp 30) (.tmp 32) 3, (some (some 29, false))⟩,
    ⟨(some 34), .pick (.tmp 29) (.const (.bool true)) (.tmp 33), none⟩] [3, 6, 34])
  (.cond (.tmp 34) (.seq (.reg [⟨(some 4), .assign (.const (.int .i64 0)), none⟩,
    ⟨(some 5), .assign (.const (.bool false)), none⟩] [4, 5])
  .ret)
  .skip))
  (.seq (.reg [⟨(some 35), .move (.tmp 6), none⟩,
    ⟨(some 36), .fieldAddr 27 (.tmp 3) 7, none⟩,
    ⟨(some 37), .load 3 (.tmp 36), none⟩,
    ⟨(some 38), .binOp .sub 3 (.tmp 35) (.tmp 37) 3, none⟩,
    ⟨(some 4), .assign (.tmp 38), none⟩,
    ⟨(some 5), .assign (.const (.bool true)), none⟩] [4, 5])
  .ret)))))
theorem spec_SpareMinutes_k : fnOk Try.prog (fun _ => false) 19 = some (spec_SpareMinutes_c.strip, 39, [.tmp 4, .tmp 5]) := by kernel_rfl
/-- loop.example/g01062/impl.FaultText: number 24, params [0] -/
def impl_FaultText_c : ACode := (.seq (.reg [⟨(some 2), .assign (.const (.string ⟨#[]⟩)), none⟩,
    ⟨(some 3), .assign (.const (.bool false)), none⟩] [0])
  (.seq (.seq (.reg [⟨(some 4), .move (.tmp 0), none⟩,
    ⟨(some 5), .call ⟨.value (.func 90), #[(.tmp 4), (.const (.int .i64 0)), (.const (.int .i64 5))], #[3, 3, 3]⟩, none⟩,
    ⟨(some 6), .unOp .not 4 (.tmp 5), none⟩] [0, 6])
  (.cond (.tmp 6) (.seq (.reg [⟨(some 2), .assign (.const (.string ⟨#[]⟩)), none⟩,
    ⟨(some 3), .assign (.const (.bool false)), none⟩] [2, 3])
  .ret)
  .skip))
  (.seq (.reg [⟨(some 7), .build 103 #[(0, (.const (.string ⟨#[116, 114, 117, 101]⟩))), (1, (.const (.string ⟨#[122, 111, 110, 101]⟩))), (2, (.const (.string ⟨#[115, 104, 111, 114, 116]⟩))), (3, (.const (.string ⟨#[111, 118, 101, 114]⟩))), (4, (.const (.string ⟨#[114, 111, 117, 116, 101]⟩))), (5, (.const (.string ⟨#[101, 97, 114, 108, 121]⟩)))], none⟩,
    ⟨(some 8), .move (.tmp 0), none⟩,
    ⟨(some 9), .index 103 (.tmp 7) (.tmp 8), none⟩,
    ⟨(some 2), .assign (.tmp 9), none⟩,
    ⟨(some 3), .assign (.const (.bool true)), none⟩] [2, 3])
  .ret)))
theorem impl_FaultText_k : fnOk Try.prog (fun _ => false) 24 = some (impl_FaultText_c.strip, 10, [.tmp 2, .tmp 3]) := by kernel_rfl
/-- loop.example/g01062/spec.FaultText: number 25, params [0] -/
def spec_FaultText_c : ACode := (.seq (.reg [⟨(some 2), .assign (.const (.string ⟨#[]⟩)), none⟩,
    ⟨(some 3), .assign (.const (.bool false)), none⟩] [0])
  (.seq (.seq (.reg [⟨(some 4), .move (.tmp 0), none⟩,
    ⟨(some 5), .call ⟨.value (.func 91), #[(.tmp 4), (.const (.int .i64 0)), (.const (.int .i64 5))], #[3, 3, 3]⟩, none⟩,
    ⟨(some 6), .unOp .not 4 (.tmp 5), none⟩] [0, 6])
  (.cond (.tmp 6) (.seq (.reg [⟨(some 2), .assign (.const (.string ⟨#[]⟩)), none⟩,
    ⟨(some 3), .assign (.const (.bool false)), none⟩] [2, 3])
  .ret)
  .skip))
  (.seq (.reg [⟨(some 7), .buildSlice 104 6 #[(0, (.const (.string ⟨#[116, 114, 117, 101]⟩))), (1, (.const (.string ⟨#[122, 111, 110, 101]⟩))), (2, (.const (.string ⟨#[115, 104, 111, 114, 116]⟩))), (3, (.const (.string ⟨#[111, 118, 101, 114]⟩))), (4, (.const (.string ⟨#[114, 111, 117, 116, 101]⟩))), (5, (.const (.string ⟨#[101, 97, 114, 108, 121]⟩)))], none⟩,
    ⟨(some 8), .move (.tmp 0), none⟩,
    ⟨(some 9), .indexAddr 104 (.tmp 7) (.tmp 8), none⟩,
    ⟨(some 10), .load 9 (.tmp 9), none⟩,
    ⟨(some 2), .assign (.tmp 10), none⟩,
    ⟨(some 3), .assign (.const (.bool true)), none⟩] [2, 3])
  .ret)))
theorem spec_FaultText_k : fnOk Try.prog (fun _ => false) 25 = some (spec_FaultText_c.strip, 11, [.tmp 2, .tmp 3]) := by kernel_rfl
/-- head: [0, 6, 7, 8] -/
def impl_isTimetable_l0 : ACode := (.seq (.reg [⟨(some 9), .binOp .lss 3 (.tmp 8) (.tmp 7) 3, none⟩] [0, 6, 7, 8, 9])
  (.seq (.cond (.tmp 9) .skip
  (.exit 0))
  (.seq (.block 1 (.seq (.reg [⟨(some 10), .move (.tmp 8), none⟩,
    ⟨(some 11), .indexAddr 25 (.tmp 6) (.tmp 8), none⟩,
    ⟨(some 12), .load 113 (.tmp 11), none⟩,
    ⟨(some 4), .alloc 113, none⟩,
    ⟨(some 3), .assign (.tmp 10), none⟩,
    ⟨none, .store 113 (.tmp 4) (.tmp 12), none⟩] [0, 3, 4, 6, 7, 8])
  (.seq (.seq (.reg [⟨(some 13), .load 113 (.tmp 4), none⟩,
    ⟨(some 14), .call ⟨.value (.func 126), #[(.tmp 13)], #[113]⟩, none⟩,
    ⟨(some 15), .unOp .not 4 (.tmp 14), none⟩] [0, 3, 4, 6, 7, 8, 15])
  (.cond (.tmp 15) (.seq (.reg [⟨(some 2), .assign (.const (.bool false)), none⟩] [2])
  .ret)
  .skip))
  (.seq (.seq (.reg [⟨(some 16), .move (.tmp 3), none⟩,
    ⟨(some 17), .binOp .eql 3 (.tmp 16) (.const (.int .i64 0)) 3, none⟩] [0, 3, 4, 6, 7, 8, 17])
  (.cond (.tmp 17) (.exit 1)
  .skip))
  (.seq (.reg [⟨(some 18), .move (.tmp 0), none⟩,
    ⟨(some 19), .move (.tmp 3), none⟩,
    ⟨(some 20), .binOp .sub 3 (.tmp 19) (.const (.int .i64 1)) 3, none⟩,
    ⟨(some 21), .indexAddr 25 (.tmp 18) (.tmp 20), none⟩,
    ⟨(some 22), .load 113 (.tmp 21), none⟩,
    ⟨(some 5), .alloc 113, none⟩,
    ⟨none, .store 113 (.tmp 5) (.tmp 22), none⟩] [0, 4, 5, 6, 7, 8])
  (.seq (.regT [⟨(some 23), .fieldAddr 113 (.tmp 5) 0, none⟩,
    ⟨(some 24), .load 3 (.tmp 23), none⟩,
    ⟨(some 25), .fieldAddr 113 (.tmp 4) 0, none⟩,
    ⟨(some 26), .load 3 (.tmp 25), none⟩,
    ⟨(some 27), .call ⟨.value (.func 104), #[(.tmp 24), (.tmp 26)], #[3, 3]⟩, none⟩,
    ⟨(some 28), .fieldAddr 113 (.tmp 5) 1, none⟩,
    ⟨(some 29), .load 3 (.tmp 28), none⟩,
    ⟨(some 30), .fieldAddr 113 (.tmp 4) 1, none⟩,
    ⟨(some 31), .load 3 (.tmp 30), none⟩,
    ⟨(some 32), .call ⟨.value (.func 104), #[(.tmp 29), (.tmp 31)], #[3, 3]⟩, none⟩,
    ⟨(some 33), .fieldAddr 113 (.tmp 5) 2, none⟩,
    ⟨(some 34), .load 3 (.tmp 33), none⟩,
    ⟨(some 35), .fieldAddr 113 (.tmp 4) 2, none⟩,
    ⟨(some 36), .load 3 (.tmp 35), none⟩,
    ⟨(some 37), .call ⟨.value (.func 104), #[(.tmp 34), (.tmp 36)], #[3, 3]⟩, none⟩,
    ⟨(some 38), .fieldAddr 113 (.tmp 5) 3, none⟩,
    ⟨(some 39), .load 3 (.tmp 38), none⟩,
    ⟨(some 40), .fieldAddr 113 (.tmp 4) 3, none⟩,
    ⟨(some 41), .load 3 (.tmp 40), none⟩,
    ⟨(some 42), .call ⟨.value (.func 104), #[(.tmp 39), (.tmp 41)], #[3, 3]⟩, none⟩]
    [⟨(some 43), .buildSlice 33 4 #[(0, (.tmp 27)), (1, (.tmp 32)), (2, (.tmp 37)), (3, (.tmp 42))], none⟩,
    ⟨(some 44), .call ⟨.value (.func 103), #[(.tmp 43)], #[33]⟩, none⟩,
    ⟨(some 45), .binOp .geq 3 (.tmp 44) (.const (.int .i64 0)) 3, none⟩] [0, 6, 7, 8, 45])
  (.cond (.tmp 45) (.seq (.reg [⟨(some 2), .assign (.const (.bool false)), none⟩] [2])
  .ret)
  .skip)))))))
  (.reg [⟨(some 46), .binOp .add 3 (.tmp 8) (.const (.int .i64 1)) 3, none⟩,
    ⟨(some 8), .move (.tmp 46), none⟩] [0, 6, 7, 8]))))
/-- loop.example/g01062/impl.isTimetable: number 71, params [0] -/
def impl_isTimetable_c : ACode := (.seq (.reg [⟨(some 2), .assign (.const (.bool false)), none⟩] [0])
  (.seq (.seq (.reg [⟨(some 6), .move (.tmp 0), none⟩,
    ⟨(some 7), .call ⟨.builtin .len, #[(.tmp 6)], #[25]⟩, none⟩,
    ⟨(some 8), .move (.const (.int .i64 0)), none⟩] [0, 6, 7, 8])
  (.block 0 (.loop impl_isTimetable_l0)))
  (.seq (.reg [⟨(some 47), .move (.tmp 0), none⟩,
    ⟨(some 48), .call ⟨.builtin .len, #[(.tmp 47)], #[25]⟩, none⟩,
    ⟨(some 49), .binOp .leq 3 (.tmp 48) (.const (.int .i64 20)) 3, none⟩,
    ⟨(some 2), .assign (.tmp 49), none⟩] [2])
  .ret)))
theorem impl_isTimetable_k : fnOk Try.prog (fun _ => false) 71 = some (impl_isTimetable_c.strip, 50, [.tmp 2]) := by kernel_rfl
/-- loop.example/g01062/impl.faultOf: number 73, params [0, 1, 2] -/
def impl_faultOf_c : ACode := (.seq (.reg [⟨(some 5), .box 27 (.tmp 2), none⟩,
    ⟨(some 6), .assign (.const (.int .i64 0)), none⟩] [0, 1, 5])
  (.seq (.reg [⟨(some 11), .move (.tmp 0), none⟩,
    ⟨(some 12), .fieldAddr 27 (.tmp 5) 1, none⟩,
    ⟨(some 13), .load 3 (.tmp 12), none⟩,
    ⟨(some 14), .fieldAddr 27 (.tmp 5) 2, none⟩,
    ⟨(some 15), .load 3 (.tmp 14), none⟩,
    ⟨(some 16), .fieldAddr 27 (.tmp 5) 3, none⟩,
    ⟨(some 17), .load 3 (.tmp 16), none⟩,
    ⟨(some 18), .call ⟨.value (.func 78), #[(.tmp 11), (.tmp 13), (.tmp 15), (.tmp 17)], #[24, 3, 3, 3]⟩, none⟩,
    ⟨(some 10), .move (.tmp 18), none⟩,
    ⟨(some 19), .extract (.tmp 10) 0, none⟩,
    ⟨(some 20), .extract (.tmp 10) 1, none⟩,
    ⟨(some 7), .assign (.tmp 19), none⟩,
    ⟨(some 8), .assign (.tmp 20), none⟩] [1, 5, 7, 8])
  (.seq (.regF [⟨(some 27), .fieldAddr 27 (.tmp 5) 6, none⟩]
    [21, 22, 23, 24, 25, 28, 29, 30] [.load 3 (.tmp 27)] [] []
    [⟨(some 21), .move (.tmp 1), none⟩,
    ⟨(some 22), .fieldAddr 27 (.tmp 5) 5, none⟩,
    ⟨(some 23), .load 3 (.tmp 22), none⟩,
    ⟨(some 24), .fieldAddr 27 (.tmp 5) 7, none⟩,
    ⟨(some 25), .load 3 (.tmp 24), none⟩,
    ⟨(some 26), .call ⟨.value (.func 131), #[(.tmp 21), (.tmp 23), (.tmp 25)], #[25, 3, 3]⟩, none⟩,
    ⟨(some 28), .load 3 (.tmp 27), none⟩,
    ⟨(some 29), .indexAddr 33 (.tmp 26) (.tmp 28), none⟩,
    ⟨(some 30), .load 3 (.tmp 29), none⟩,
    ⟨(some 9), .assign (.tmp 30), none⟩] [5, 7, 8, 9])
  (.seq (.block 0 (.seq (.reg [⟨(some 32), .move (.tmp 8), none⟩,
    ⟨(some 33), .unOp .not 4 (.tmp 32), none⟩,
    ⟨(some 31), .assign (.tmp 33), none⟩] [5, 7, 9, 31])
  (.cond (.tmp 31) (.seq (.reg [⟨(some 6), .assign (.const (.int .i64 1)), none⟩] [6])
  .ret)
  (.seq (.reg [⟨(some 35), .fieldAddr 27 (.tmp 5) 4, none⟩,
    ⟨(some 36), .load 3 (.tmp 35), none⟩,
    ⟨(some 37), .move (.tmp 7), none⟩,
    ⟨(some 38), .binOp .lss 3 (.tmp 36) (.tmp 37) 3, none⟩,
    ⟨(some 34), .assign (.tmp 38), none⟩] [5, 7, 9, 34])
  (.cond (.tmp 34) (.seq (.reg [⟨(some 6), .assign (.const (.int .i64 2)), none⟩] [6])
  .ret)
  (.seq (.reg [⟨(some 40), .fieldAddr 27 (.tmp 5) 4, none⟩,
    ⟨(some 41), .load 3 (.tmp 40), none⟩,
    ⟨(some 42), .move (.tmp 7), none⟩,
    ⟨(some 43), .binOp .mul 3 (.const (.int .i64 2)) (.tmp 42) 3, none⟩,
    ⟨(some 44), .binOp .gtr 3 (.tmp 41) (.tmp 43) 3, none⟩,
    ⟨(some 39), .assign (.tmp 44), none⟩] [5, 9, 39])
  (.cond (.tmp 39) (.seq (.reg [⟨(some 6), .assign (.const (.int .i64 3)), none⟩] [6])
  .ret)
  (.seq (.reg [⟨(some 46), .move (.tmp 9), none⟩,
    ⟨(some 47), .binOp .lss 3 (.tmp 46) (.const (.int .i64 0)) 3, none⟩,
    ⟨(some 45), .assign (.tmp 47), none⟩] [5, 9, 45])
  (.cond (.tmp 45) (.seq (.reg [⟨(some 6), .assign (.const (.int .i64 4)), none⟩] [6])
  .ret)
  (.seq (.reg [⟨(some 49), .move (.tmp 9), none⟩,
    ⟨(some 50), .fieldAddr 27 (.tmp 5) 8, none⟩,
    ⟨(some 51), .load 3 (.tmp 50), none⟩,
    ⟨(some 52), .binOp .gtr 3 (.tmp 49) (.tmp 51) 3, none⟩,
    ⟨(some 48), .assign (.tmp 52), none⟩] [48])
  (.cond (.tmp 48) (.seq (.reg [⟨(some 6), .assign (.const (.int .i64 5)), none⟩] [6])
  .ret)
  .skip)))))))))))
  (.seq (.reg [⟨(some 6), .assign (.const (.int .i64 0)), none⟩] [6])
  .ret)))))
theorem impl_faultOf_k : fnOk Try.prog (fun i => i == 2) 73 = some (impl_faultOf_c.strip, 53, [.tmp 6]) := by kernel_rfl
/-- head: [0, 3] -/
def spec_l9Good_l0 : ACode := (.seq (.seq (.reg [⟨(some 4), .move (.tmp 3), none⟩,
    ⟨(some 5), .move (.tmp 0), none⟩,
    ⟨(some 6), .call ⟨.builtin .len, #[(.tmp 5)], #[25]⟩, none⟩,
    ⟨(some 7), .binOp .lss 3 (.tmp 4) (.tmp 6) 3, none⟩] [0, 3, 7])
  (.cond (.tmp 7) .skip
  (.exit 0)))
  (.seq (.block 1 (.seq (.regQ [⟨(some 10), .move (.tmp 0), none⟩,
    ⟨(some 11), .move (.tmp 3), none⟩,
    ⟨(some 12), .indexAddr 25 (.tmp 10) (.tmp 11), none⟩,
    ⟨(some 13), .load 113 (.tmp 12), none⟩,
    ⟨(some 14), .call ⟨.value (.func 123), #[(.tmp 13)], #[113]⟩, none⟩,
    ⟨(some 15), .unOp .not 4 (.tmp 14), none⟩,
    ⟨(some 16), .move (.tmp 15), none⟩,
    ⟨(some 17), .move (.tmp 3), (some (some 16, false))⟩,
    ⟨(some 18), .binOp .gtr 3 (.tmp 17) (.const (.int .i64 0)) 3, (some (some 16, false))⟩,
    ⟨(some 19), .move (.tmp 18), (some (some 16, false))⟩,
    ⟨(some 20), .move (.tmp 0), (some (some 19, true))⟩,
    ⟨(some 21), .move (.tmp 3), (some (some 19, true))⟩,
    ⟨(some 22), .binOp .sub 3 (.tmp 21) (.const (.int .i64 1)) 3, (some (some 19, true))⟩,
    ⟨(some 23), .indexAddr 25 (.tmp 20) (.tmp 22), (some (some 19, true))⟩,
    ⟨(some 24), .load 113 (.tmp 23), (some (some 19, true))⟩,
    ⟨(some 25), .call ⟨.value (.func 124), #[(.tmp 24)], #[113]⟩, (some (some 19, true))⟩,
    ⟨(some 26), .move (.tmp 0), (some (some 19, true))⟩,
    ⟨(some 27), .move (.tmp 3), (some (some 19, true))⟩,
    ⟨(some 28), .indexAddr 25 (.tmp 26) (.tmp 27), (some (some 19, true))⟩,
    ⟨(some 29), .load 113 (.tmp 28), (some (some 19, true))⟩,
    ⟨(some 30), .call ⟨.value (.func 124), #[(.tmp 29)], #[113]⟩, (some (some 19, true))⟩,
    ⟨(some 31), .binOp .geq 3 (.tmp 25) (.tmp 30) 3, (some (some 19, true))⟩,
    ⟨(some 32), .pick (.tmp 19) (.tmp 31) (.const (.bool false)), (some (some 16, false))⟩,
    ⟨(some 33), .pick (.tmp 16) (.const (.bool true)) (.tmp 32), none⟩] [0, 3, 33])
  (.cond (.tmp 33) (.seq (.reg [⟨(some 2), .assign (.const (.bool false)), none⟩] [2])
  .ret)
  .skip)))
  (.reg [⟨(some 8), .move (.tmp 3), none⟩,
    ⟨(some 9), .binOp .add 3 (.tmp 8) (.const (.int .i64 1)) 3, none⟩,
    ⟨(some 3), .assign (.tmp 9), none⟩] [0, 3])))
/-- loop.example/g01062/spec.l9Good: number 75, params [0] -/
def spec_l9Good_c : ACode := (.seq (.reg [⟨(some 2), .assign (.const (.bool false)), none⟩] [0])
  (.seq (.seq (.reg [⟨(some 3), .assign (.const (.int .i64 0)), none⟩] [0, 3])
  (.block 0 (.loop spec_l9Good_l0)))
  (.seq (.reg [⟨(some 34), .move (.tmp 0), none⟩,
    ⟨(some 35), .call ⟨.builtin .len, #[(.tmp 34)], #[25]⟩, none⟩,
    ⟨(some 36), .binOp .leq 3 (.tmp 35) (.const (.int .i64 20)) 3, none⟩,
    ⟨(some 2), .assign (.tmp 36), none⟩] [2])
  .ret)))
theorem spec_l9Good_k : fnOk Try.prog (fun _ => false) 75 = some (spec_l9Good_c.strip, 37, [.tmp 2]) := by kernel_rfl
/-- loop.example/g01062/spec.l10Fault: number 77, params [0, 1, 2] -/
def spec_l10Fault_c : ACode := (.seq (.reg [⟨(some 5), .box 27 (.tmp 2), none⟩,
    ⟨(some 6), .assign (.const (.int .i64 0)), none⟩] [0, 1, 5])
  (.seq (.reg [⟨(some 9), .move (.tmp 0), none⟩,
    ⟨(some 10), .fieldAddr 27 (.tmp 5) 1, none⟩,
    ⟨(some 11), .load 3 (.tmp 10), none⟩,
    ⟨(some 12), .fieldAddr 27 (.tmp 5) 2, none⟩,
    ⟨(some 13), .load 3 (.tmp 12), none⟩,
    ⟨(some 14), .fieldAddr 27 (.tmp 5) 3, none⟩,
    ⟨(some 15), .load 3 (.tmp 14), none⟩,
    ⟨(some 16), .call ⟨.value (.func 79), #[(.tmp 9), (.tmp 11), (.tmp 13), (.tmp 15)], #[24, 3, 3, 3]⟩, none⟩,
    ⟨(some 7), .assign (.tmp 16), none⟩] [1, 5, 7])
  (.seq (.regF [⟨(some 23), .fieldAddr 27 (.tmp 5) 6, none⟩]
    [17, 18, 19, 20, 21, 24, 25, 26] [.load 3 (.tmp 23)] [] []
    [⟨(some 17), .move (.tmp 1), none⟩,
    ⟨(some 18), .fieldAddr 27 (.tmp 5) 5, none⟩,
    ⟨(some 19), .load 3 (.tmp 18), none⟩,
    ⟨(some 20), .fieldAddr 27 (.tmp 5) 7, none⟩,
    ⟨(some 21), .load 3 (.tmp 20), none⟩,
    ⟨(some 22), .call ⟨.value (.func 139), #[(.tmp 17), (.tmp 19), (.tmp 21)], #[25, 3, 3]⟩, none⟩,
    ⟨(some 24), .load 3 (.tmp 23), none⟩,
    ⟨(some 25), .indexAddr 33 (.tmp 22) (.tmp 24), none⟩,
    ⟨(some 26), .load 3 (.tmp 25), none⟩,
    ⟨(some 8), .assign (.tmp 26), none⟩] [5, 7, 8])
  (.seq (.block 0 (.seq (.reg [⟨(some 28), .move (.tmp 7), none⟩,
    ⟨(some 29), .binOp .eql 3 (.tmp 28) (.const (.int .i64 0)) 3, none⟩,
    ⟨(some 27), .assign (.tmp 29), none⟩] [5, 7, 8, 27])
  (.cond (.tmp 27) (.seq (.reg [⟨(some 6), .assign (.const (.int .i64 1)), none⟩] [6])
  .ret)
  (.seq (.reg [⟨(some 31), .fieldAddr 27 (.tmp 5) 4, none⟩,
    ⟨(some 32), .load 3 (.tmp 31), none⟩,
    ⟨(some 33), .move (.tmp 7), none⟩,
    ⟨(some 34), .binOp .lss 3 (.tmp 32) (.tmp 33) 3, none⟩,
    ⟨(some 30), .assign (.tmp 34), none⟩] [5, 7, 8, 30])
  (.cond (.tmp 30) (.seq (.reg [⟨(some 6), .assign (.const (.int .i64 2)), none⟩] [6])
  .ret)
  (.seq (.reg [⟨(some 36), .fieldAddr 27 (.tmp 5) 4, none⟩,
    ⟨(some 37), .load 3 (.tmp 36), none⟩,
    ⟨(some 38), .move (.tmp 7), none⟩,
    ⟨(some 39), .binOp .mul 3 (.const (.int .i64 2)) (.tmp 38) 3, none⟩,
    ⟨(some 40), .binOp .gtr 3 (.tmp 37) (.tmp 39) 3, none⟩,
    ⟨(some 35), .assign (.tmp 40), none⟩] [5, 8, 35])
  (.cond (.tmp 35) (.seq (.reg [⟨(some 6), .assign (.const (.int .i64 3)), none⟩] [6])
  .ret)
  (.seq (.reg [⟨(some 42), .move (.tmp 8), none⟩,
    ⟨(some 43), .binOp .eql 3 (.tmp 42) (.const (.int .i64 10000)) 3, none⟩,
    ⟨(some 41), .assign (.tmp 43), none⟩] [5, 8, 41])
  (.cond (.tmp 41) (.seq (.reg [⟨(some 6), .assign (.const (.int .i64 4)), none⟩] [6])
  .ret)
  (.seq (.reg [⟨(some 45), .move (.tmp 8), none⟩,
    ⟨(some 46), .fieldAddr 27 (.tmp 5) 8, none⟩,
    ⟨(some 47), .load 3 (.tmp 46), none⟩,
    ⟨(some 48), .binOp .gtr 3 (.tmp 45) (.tmp 47) 3, none⟩,
    ⟨(some 44), .assign (.tmp 48), none⟩] [44])
  (.cond (.tmp 44) (.seq (.reg [⟨(some 6), .assign (.const (.int .i64 5)), none⟩] [6])
  .ret)
  .skip)))))))))))
  (.seq (.reg [⟨(some 6), .assign (.const (.int .i64 0)), none⟩] [6])
  .ret)))))
theorem spec_l10Fault_k : fnOk Try.prog (fun i => i == 2) 77 = some (spec_l10Fault_c.strip, 49, [.tmp 6]) := by kernel_rfl
/-- loop.example/g01062/impl.routeOn: number 81, params [0, 1] -/
def impl_routeOn_c : ACode := (.seq (.reg [⟨(some 3), .box 27 (.tmp 1), none⟩,
    ⟨(some 4), .assign (.const (.slice none 0 0)), none⟩,
    ⟨(some 5), .assign (.const (.bool false)), none⟩] [0, 3])
  (.seq (.seq (.regF [⟨(some 12), .fieldAddr 27 (.tmp 3) 6, none⟩,
    ⟨(some 16), .fieldAddr 27 (.tmp 3) 8, none⟩]
    [6, 7, 8, 9, 10, 13, 14, 15, 17, 19] [.load 3 (.tmp 12), .load 3 (.tmp 16)] [] []
    [⟨(some 6), .move (.tmp 0), none⟩,
    ⟨(some 7), .fieldAddr 27 (.tmp 3) 5, none⟩,
    ⟨(some 8), .load 3 (.tmp 7), none⟩,
    ⟨(some 9), .fieldAddr 27 (.tmp 3) 7, none⟩,
    ⟨(some 10), .load 3 (.tmp 9), none⟩,
    ⟨(some 11), .call ⟨.value (.func 131), #[(.tmp 6), (.tmp 8), (.tmp 10)], #[25, 3, 3]⟩, none⟩,
    ⟨(some 13), .load 3 (.tmp 12), none⟩,
    ⟨(some 14), .indexAddr 33 (.tmp 11) (.tmp 13), none⟩,
    ⟨(some 15), .load 3 (.tmp 14), none⟩,
    ⟨(some 17), .load 3 (.tmp 16), none⟩,
    ⟨(some 18), .call ⟨.value (.func 90), #[(.tmp 15), (.const (.int .i64 0)), (.tmp 17)], #[3, 3, 3]⟩, none⟩,
    ⟨(some 19), .unOp .not 4 (.tmp 18), none⟩] [0, 3, 19])
  (.cond (.tmp 19) (.seq (.reg [⟨(some 4), .assign (.const (.slice none 0 0)), none⟩,
    ⟨(some 5), .assign (.const (.bool false)), none⟩] [4, 5])
  .ret)
  .skip))
  (.seq (.reg [⟨(some 20), .move (.tmp 0), none⟩,
    ⟨(some 21), .fieldAddr 27 (.tmp 3) 5, none⟩,
    ⟨(some 22), .load 3 (.tmp 21), none⟩,
    ⟨(some 23), .fieldAddr 27 (.tmp 3) 7, none⟩,
    ⟨(some 24), .load 3 (.tmp 23), none⟩,
    ⟨(some 25), .fieldAddr 27 (.tmp 3) 6, none⟩,
    ⟨(some 26), .load 3 (.tmp 25), none⟩,
    ⟨(some 27), .call ⟨.value (.func 140), #[(.tmp 20), (.tmp 22), (.tmp 24), (.tmp 26)], #[25, 3, 3, 3]⟩, none⟩,
    ⟨(some 28), .extract (.tmp 27) 0, none⟩,
    ⟨(some 29), .extract (.tmp 27) 1, none⟩,
    ⟨(some 4), .assign (.tmp 28), none⟩,
    ⟨(some 5), .assign (.tmp 29), none⟩] [4, 5])
  .ret)))
theorem impl_routeOn_k : fnOk Try.prog (fun i => i == 1) 81 = some (impl_routeOn_c.strip, 30, [.tmp 4, .tmp 5]) := by kernel_rfl
/-- loop.example/g01062/spec.l10Route: number 82, params [0, 1] -/
def spec_l10Route_c : ACode := (.seq (.reg [⟨(some 3), .box 27 (.tmp 1), none⟩,
    ⟨(some 4), .assign (.const (.slice none 0 0)), none⟩,
    ⟨(some 5), .assign (.const (.bool false)), none⟩] [0, 3])
  (.seq (.reg [⟨(some 11), .move (.tmp 0), none⟩,
    ⟨(some 12), .fieldAddr 27 (.tmp 3) 5, none⟩,
    ⟨(some 13), .load 3 (.tmp 12), none⟩,
    ⟨(some 14), .fieldAddr 27 (.tmp 3) 7, none⟩,
    ⟨(some 15), .load 3 (.tmp 14), none⟩,
    ⟨(some 16), .fieldAddr 27 (.tmp 3) 6, none⟩,
    ⟨(some 17), .load 3 (.tmp 16), none⟩,
    ⟨(some 18), .call ⟨.value (.func 141), #[(.tmp 11), (.tmp 13), (.tmp 15), (.tmp 17)], #[25, 3, 3, 3]⟩, none⟩,
    ⟨(some 10), .move (.tmp 18), none⟩,
    ⟨(some 19), .extract (.tmp 10) 0, none⟩,
    ⟨(some 20), .extract (.tmp 10) 1, none⟩,
    ⟨(some 6), .assign (.tmp 19), none⟩,
    ⟨(some 7), .assign (.tmp 20), none⟩] [0, 3, 6, 7])
  (.seq (.seq (.reg [⟨(some 21), .move (.tmp 7), none⟩,
    ⟨(some 22), .unOp .not 4 (.tmp 21), none⟩,
    ⟨(some 23), .move (.tmp 22), none⟩,
    ⟨(some 24), .move (.tmp 6), (some (some 23, false))⟩,
    ⟨(some 25), .fieldAddr 27 (.tmp 3) 8, (some (some 23, false))⟩,
    ⟨(some 26), .load 3 (.tmp 25), (some (some 23, false))⟩,
    ⟨(some 27), .binOp .gtr 3 (.tmp 24) (.tmp 26) 3, (some (some 23, false))⟩,
    ⟨(some 28), .pick (.tmp 23) (.const (.bool true)) (.tmp 27), none⟩] [0, 3, 28])
  (.cond (.tmp 28) (.seq (.reg [⟨(some 29), .buildSlice 33 0 #[], none⟩,
    ⟨(some 4), .assign (.tmp 29), none⟩,
    ⟨(some 5), .assign (.const (.bool false)), none⟩] [4, 5])
  .ret)
  .skip))
  (.seq (.reg [⟨(some 31), .move (.tmp 0), none⟩,
    ⟨(some 32), .fieldAddr 27 (.tmp 3) 5, none⟩,
    ⟨(some 33), .load 3 (.tmp 32), none⟩,
    ⟨(some 34), .fieldAddr 27 (.tmp 3) 7, none⟩,
    ⟨(some 35), .load 3 (.tmp 34), none⟩,
    ⟨(some 36), .fieldAddr 27 (.tmp 3) 6, none⟩,
    ⟨(some 37), .load 3 (.tmp 36), none⟩,
    ⟨(some 38), .call ⟨.value (.func 142), #[(.tmp 31), (.tmp 33), (.tmp 35), (.tmp 37)], #[25, 3, 3, 3]⟩, none⟩,
    ⟨(some 30), .move (.tmp 38), none⟩,
    ⟨(some 39), .extract (.tmp 30) 0, none⟩,
    ⟨(some 40), .extract (.tmp 30) 1, none⟩,
    ⟨(some 8), .assign (.tmp 39), none⟩,
    ⟨(some 9), .assign (.tmp 40), none⟩] [8, 9])
  (.seq (.reg [⟨(some 41), .move (.tmp 8), none⟩,
    ⟨(some 42), .move (.tmp 9), none⟩,
    ⟨(some 4), .assign (.tmp 41), none⟩,
    ⟨(some 5), .assign (.tmp 42), none⟩] [4, 5])
  .ret)))))
theorem spec_l10Route_k : fnOk Try.prog (fun _ => false) 82 = some (spec_l10Route_c.strip, 43, [.tmp 4, .tmp 5]) := by kernel_rfl
/-- head: [0, 1, 2, 13, 14, 15] -/
def impl_endOfRoute_l0 : ACode := (.seq (.reg [⟨(some 16), .binOp .lss 3 (.tmp 15) (.tmp 14) 3, none⟩] [0, 1, 2, 13, 14, 15, 16])
  (.seq (.cond (.tmp 16) .skip
  (.exit 0))
  (.seq (.block 1 (.seq (.reg [⟨(some 17), .indexAddr 33 (.tmp 13) (.tmp 15), none⟩,
    ⟨(some 18), .load 3 (.tmp 17), none⟩,
    ⟨(some 12), .assign (.tmp 18), none⟩] [0, 1, 2, 12, 13, 14, 15])
  (.seq (.seq (.reg [⟨(some 19), .move (.tmp 12), none⟩,
    ⟨(some 20), .move (.tmp 0), none⟩,
    ⟨(some 21), .call ⟨.builtin .len, #[(.tmp 20)], #[25]⟩, none⟩,
    ⟨(some 22), .binOp .sub 3 (.tmp 21) (.const (.int .i64 1)) 3, none⟩,
    ⟨(some 23), .call ⟨.value (.func 90), #[(.tmp 19), (.const (.int .i64 0)), (.tmp 22)], #[3, 3, 3]⟩, none⟩,
    ⟨(some 24), .unOp .not 4 (.tmp 23), none⟩,
    ⟨(some 25), .move (.tmp 24), none⟩,
    ⟨(some 26), .move (.tmp 0), (some (some 25, false))⟩,
    ⟨(some 27), .move (.tmp 12), (some (some 25, false))⟩,
    ⟨(some 28), .indexAddr 25 (.tmp 26) (.tmp 27), (some (some 25, false))⟩,
    ⟨(some 29), .fieldAddr 113 (.tmp 28) 1, (some (some 25, false))⟩,
    ⟨(some 30), .load 3 (.tmp 29), (some (some 25, false))⟩,
    ⟨(some 31), .move (.tmp 1), (some (some 25, false))⟩,
    ⟨(some 32), .binOp .neq 3 (.tmp 30) (.tmp 31) 3, (some (some 25, false))⟩,
    ⟨(some 33), .pick (.tmp 25) (.const (.bool true)) (.tmp 32), none⟩,
    ⟨(some 34), .move (.tmp 33), none⟩,
    ⟨(some 35), .move (.tmp 0), (some (some 34, false))⟩,
    ⟨(some 36), .move (.tmp 12), (some (some 34, false))⟩,
    ⟨(some 37), .indexAddr 25 (.tmp 35) (.tmp 36), (some (some 34, false))⟩,
    ⟨(some 38), .fieldAddr 113 (.tmp 37) 0, (some (some 34, false))⟩,
    ⟨(some 39), .load 3 (.tmp 38), (some (some 34, false))⟩,
    ⟨(some 40), .move (.tmp 2), (some (some 34, false))⟩,
    ⟨(some 41), .binOp .lss 3 (.tmp 39) (.tmp 40) 3, (some (some 34, false))⟩,
    ⟨(some 42), .pick (.tmp 34) (.const (.bool true)) (.tmp 41), none⟩] [0, 12, 13, 14, 15, 42])
  (.cond (.tmp 42) (.seq (.reg [⟨(some 8), .assign (.const (.int .i64 0)), none⟩,
    ⟨(some 9), .assign (.const (.int .i64 0)), none⟩,
    ⟨(some 10), .assign (.const (.bool false)), none⟩] [8, 9, 10])
  .ret)
  .skip))
  (.regQ [⟨(some 43), .move (.tmp 0), none⟩,
    ⟨(some 44), .move (.tmp 12), none⟩,
    ⟨(some 45), .indexAddr 25 (.tmp 43) (.tmp 44), none⟩,
    ⟨(some 46), .fieldAddr 113 (.tmp 45) 2, none⟩,
    ⟨(some 47), .load 3 (.tmp 46), none⟩,
    ⟨(some 48), .move (.tmp 0), none⟩,
    ⟨(some 49), .move (.tmp 12), none⟩,
    ⟨(some 50), .indexAddr 25 (.tmp 48) (.tmp 49), none⟩,
    ⟨(some 51), .fieldAddr 113 (.tmp 50) 3, none⟩,
    ⟨(some 52), .load 3 (.tmp 51), none⟩,
    ⟨(some 1), .assign (.tmp 47), none⟩,
    ⟨(some 2), .assign (.tmp 52), none⟩] [0, 1, 2, 13, 14, 15]))))
  (.reg [⟨(some 53), .binOp .add 3 (.tmp 15) (.const (.int .i64 1)) 3, none⟩,
    ⟨(some 15), .move (.tmp 53), none⟩] [0, 1, 2, 13, 14, 15]))))
/-- loop.example/g01062/impl.endOfRoute: number 85, params [0, 1, 2, 3] -/
def impl_endOfRoute_c : ACode := (.seq (.reg [⟨(some 8), .assign (.const (.int .i64 0)), none⟩,
    ⟨(some 9), .assign (.const (.int .i64 0)), none⟩,
    ⟨(some 10), .assign (.const (.bool false)), none⟩] [0, 1, 2, 3])
  (.seq (.seq (.reg [⟨(some 13), .move (.tmp 3), none⟩,
    ⟨(some 14), .call ⟨.builtin .len, #[(.tmp 13)], #[33]⟩, none⟩,
    ⟨(some 15), .move (.const (.int .i64 0)), none⟩] [0, 1, 2, 13, 14, 15])
  (.block 0 (.loop impl_endOfRoute_l0)))
  (.seq (.reg [⟨(some 54), .move (.tmp 1), none⟩,
    ⟨(some 55), .move (.tmp 2), none⟩,
    ⟨(some 8), .assign (.tmp 54), none⟩,
    ⟨(some 9), .assign (.tmp 55), none⟩,
    ⟨(some 10), .assign (.const (.bool true)), none⟩] [8, 9, 10])
  .ret)))
theorem impl_endOfRoute_k : fnOk Try.prog (fun _ => false) 85 = some (impl_endOfRoute_c.strip, 56, [.tmp 8, .tmp 9, .tmp 10]) := by kernel_rfl
/-- head: [0, 1, 2, 3, 10, 13, 14, 15] -/
def impl_latestLeave_l0 : ACode := (.seq (.reg [⟨(some 16), .binOp .lss 3 (.tmp 15) (.tmp 14) 3, none⟩] [0, 1, 2, 3, 10, 13, 14, 15, 16])
  (.seq (.cond (.tmp 16) .skip
  (.exit 0))
  (.seq (.block 1 (.seq (.reg [⟨(some 17), .indexAddr 25 (.tmp 13) (.tmp 15), none⟩,
    ⟨(some 18), .load 113 (.tmp 17), none⟩,
    ⟨(some 12), .alloc 113, none⟩,
    ⟨none, .store 113 (.tmp 12) (.tmp 18), none⟩] [0, 1, 2, 3, 10, 12, 13, 14, 15])
  (.seq (.reg [⟨(some 19), .fieldAddr 113 (.tmp 12) 1, none⟩,
    ⟨(some 20), .load 3 (.tmp 19), none⟩,
    ⟨(some 21), .move (.tmp 1), none⟩,
    ⟨(some 22), .binOp .eql 3 (.tmp 20) (.tmp 21) 3, none⟩,
    ⟨(some 23), .move (.tmp 22), none⟩,
    ⟨(some 24), .move (.tmp 0), (some (some 23, true))⟩,
    ⟨(some 25), .fieldAddr 113 (.tmp 12) 2, (some (some 23, true))⟩,
    ⟨(some 26), .load 3 (.tmp 25), (some (some 23, true))⟩,
    ⟨(some 27), .fieldAddr 113 (.tmp 12) 3, (some (some 23, true))⟩,
    ⟨(some 28), .load 3 (.tmp 27), (some (some 23, true))⟩,
    ⟨(some 29), .call ⟨.value (.func 131), #[(.tmp 24), (.tmp 26), (.tmp 28)], #[25, 3, 3]⟩, (some (some 23, true))⟩,
    ⟨(some 30), .move (.tmp 2), (some (some 23, true))⟩,
    ⟨(some 31), .indexAddr 33 (.tmp 29) (.tmp 30), (some (some 23, true))⟩,
    ⟨(some 32), .load 3 (.tmp 31), (some (some 23, true))⟩,
    ⟨(some 33), .move (.tmp 3), (some (some 23, true))⟩,
    ⟨(some 34), .call ⟨.value (.func 90), #[(.tmp 32), (.const (.int .i64 0)), (.tmp 33)], #[3, 3, 3]⟩, (some (some 23, true))⟩,
    ⟨(some 35), .pick (.tmp 23) (.tmp 34) (.const (.bool false)), none⟩] [0, 1, 2, 3, 10, 12, 13, 14, 15, 35])
  (.cond (.tmp 35) (.reg [⟨(some 36), .move (.tmp 10), none⟩,
    ⟨(some 37), .fieldAddr 113 (.tmp 12) 0, none⟩,
    ⟨(some 38), .load 3 (.tmp 37), none⟩,
    ⟨(some 39), .call ⟨.builtin .max, #[(.tmp 36), (.tmp 38)], #[3, 3]⟩, none⟩,
    ⟨(some 10), .assign (.tmp 39), none⟩] [0, 1, 2, 3, 10, 13, 14, 15])
  .skip))))
  (.reg [⟨(some 40), .binOp .add 3 (.tmp 15) (.const (.int .i64 1)) 3, none⟩,
    ⟨(some 15), .move (.tmp 40), none⟩] [0, 1, 2, 3, 10, 13, 14, 15]))))
/-- loop.example/g01062/impl.latestLeave: number 86, params [0, 1, 2, 3] -/
def impl_latestLeave_c : ACode := (.seq (.reg [⟨(some 8), .assign (.const (.int .i64 0)), none⟩,
    ⟨(some 9), .assign (.const (.bool false)), none⟩] [0, 1, 2, 3])
  (.seq (.reg [⟨(some 10), .assign (.const (.int .i64 (-1))), none⟩] [0, 1, 2, 3, 10])
  (.seq (.seq (.reg [⟨(some 13), .move (.tmp 0), none⟩,
    ⟨(some 14), .call ⟨.builtin .len, #[(.tmp 13)], #[25]⟩, none⟩,
    ⟨(some 15), .move (.const (.int .i64 0)), none⟩] [0, 1, 2, 3, 10, 13, 14, 15])
  (.block 0 (.loop impl_latestLeave_l0)))
  (.seq (.reg [⟨(some 41), .move (.tmp 10), none⟩,
    ⟨(some 42), .call ⟨.builtin .max, #[(.tmp 41), (.const (.int .i64 0))], #[3, 3]⟩, none⟩,
    ⟨(some 43), .move (.tmp 10), none⟩,
    ⟨(some 44), .binOp .geq 3 (.tmp 43) (.const (.int .i64 0)) 3, none⟩,
    ⟨(some 8), .assign (.tmp 42), none⟩,
    ⟨(some 9), .assign (.tmp 44), none⟩] [8, 9])
  .ret))))
theorem impl_latestLeave_k : fnOk Try.prog (fun _ => false) 86 = some (impl_latestLeave_c.strip, 45, [.tmp 8, .tmp 9]) := by kernel_rfl
/-- head: [0, 1, 2, 3, 10] -/
def spec_LatestLeave_l0 : ACode := (.seq (.seq (.reg [⟨(some 30), .move (.tmp 10), none⟩,
    ⟨(some 31), .binOp .geq 3 (.tmp 30) (.const (.int .i64 0)) 3, none⟩] [0, 1, 2, 3, 10, 31])
  (.cond (.tmp 31) .skip
  (.exit 0)))
  (.seq (.block 1 (.seq (.reg [⟨(some 34), .move (.tmp 0), none⟩,
    ⟨(some 35), .move (.tmp 10), none⟩,
    ⟨(some 36), .indexAddr 25 (.tmp 34) (.tmp 35), none⟩,
    ⟨(some 37), .load 113 (.tmp 36), none⟩,
    ⟨(some 11), .alloc 113, none⟩,
    ⟨none, .store 113 (.tmp 11) (.tmp 37), none⟩] [0, 1, 2, 3, 10, 11])
  (.seq (.reg [⟨(some 38), .fieldAddr 113 (.tmp 11) 1, none⟩,
    ⟨(some 39), .load 3 (.tmp 38), none⟩,
    ⟨(some 40), .move (.tmp 1), none⟩,
    ⟨(some 41), .binOp .eql 3 (.tmp 39) (.tmp 40) 3, none⟩,
    ⟨(some 42), .move (.tmp 41), none⟩,
    ⟨(some 43), .fieldAddr 113 (.tmp 11) 3, (some (some 42, true))⟩,
    ⟨(some 44), .load 3 (.tmp 43), (some (some 42, true))⟩,
    ⟨(some 45), .move (.tmp 3), (some (some 42, true))⟩,
    ⟨(some 46), .binOp .leq 3 (.tmp 44) (.tmp 45) 3, (some (some 42, true))⟩,
    ⟨(some 47), .pick (.tmp 42) (.tmp 46) (.const (.bool false)), none⟩,
    ⟨(some 48), .move (.tmp 47), none⟩,
    ⟨(some 49), .move (.tmp 0), (some (some 48, true))⟩,
    ⟨(some 50), .fieldAddr 113 (.tmp 11) 2, (some (some 48, true))⟩,
    ⟨(some 51), .load 3 (.tmp 50), (some (some 48, true))⟩,
    ⟨(some 52), .fieldAddr 113 (.tmp 11) 3, (some (some 48, true))⟩,
    ⟨(some 53), .load 3 (.tmp 52), (some (some 48, true))⟩,
    ⟨(some 54), .call ⟨.value (.func 139), #[(.tmp 49), (.tmp 51), (.tmp 53)], #[25, 3, 3]⟩, (some (some 48, true))⟩,
    ⟨(some 55), .move (.tmp 2), (some (some 48, true))⟩,
    ⟨(some 56), .indexAddr 33 (.tmp 54) (.tmp 55), (some (some 48, true))⟩,
    ⟨(some 57), .load 3 (.tmp 56), (some (some 48, true))⟩,
    ⟨(some 58), .move (.tmp 3), (some (some 48, true))⟩,
    ⟨(some 59), .binOp .leq 3 (.tmp 57) (.tmp 58) 3, (some (some 48, true))⟩,
    ⟨(some 60), .pick (.tmp 48) (.tmp 59) (.const (.bool false)), none⟩] [0, 1, 2, 3, 10, 11, 60])
  (.cond (.tmp 60) (.seq (.reg [⟨(some 61), .fieldAddr 113 (.tmp 11) 0, none⟩,
    ⟨(some 62), .load 3 (.tmp 61), none⟩,
    ⟨(some 8), .assign (.tmp 62), none⟩,
    ⟨(some 9), .assign (.const (.bool true)), none⟩] [8, 9])
  .ret)
  .skip))))
  (.reg [⟨(some 32), .move (.tmp 10), none⟩,
    ⟨(some 33), .binOp .sub 3 (.tmp 32) (.const (.int .i64 1)) 3, none⟩,
    ⟨(some 10), .assign (.tmp 33), none⟩] [0, 1, 2, 3, 10])))
/-- loop.example/g01062/spec.LatestLeave: number 87, params [0, 1, 2, 3] -/
def spec_LatestLeave_c : ACode := (.seq (.reg [⟨(some 8), .assign (.const (.int .i64 0)), none⟩,
    ⟨(some 9), .assign (.const (.bool false)), none⟩] [0, 1, 2, 3])
  (.seq (.seq (.reg [⟨(some 12), .move (.tmp 0), none⟩,
    ⟨(some 13), .move (.tmp 1), none⟩,
    ⟨(some 14), .move (.tmp 3), none⟩,
    ⟨(some 15), .call ⟨.value (.func 143), #[(.tmp 12), (.tmp 13), (.tmp 14)], #[25, 3, 3]⟩, none⟩,
    ⟨(some 16), .unOp .not 4 (.tmp 15), none⟩,
    ⟨(some 17), .move (.tmp 16), none⟩,
    ⟨(some 18), .move (.tmp 2), (some (some 17, false))⟩,
    ⟨(some 19), .call ⟨.value (.func 107), #[(.tmp 18)], #[3]⟩, (some (some 17, false))⟩,
    ⟨(some 20), .unOp .not 4 (.tmp 19), (some (some 17, false))⟩,
    ⟨(some 21), .pick (.tmp 17) (.const (.bool true)) (.tmp 20), none⟩,
    ⟨(some 22), .move (.tmp 21), none⟩,
    ⟨(some 23), .move (.tmp 1), (some (some 22, false))⟩,
    ⟨(some 24), .move (.tmp 2), (some (some 22, false))⟩,
    ⟨(some 25), .binOp .eql 3 (.tmp 23) (.tmp 24) 3, (some (some 22, false))⟩,
    ⟨(some 26), .pick (.tmp 22) (.const (.bool true)) (.tmp 25), none⟩] [0, 1, 2, 3, 26])
  (.cond (.tmp 26) (.seq (.reg [⟨(some 8), .assign (.const (.int .i64 0)), none⟩,
    ⟨(some 9), .assign (.const (.bool false)), none⟩] [8, 9])
  .ret)
  .skip))
  (.seq (.seq (.reg [⟨(some 27), .move (.tmp 0), none⟩,
    ⟨(some 28), .call ⟨.builtin .len, #[(.tmp 27)], #[25]⟩, none⟩,
    ⟨(some 29), .binOp .sub 3 (.tmp 28) (.const (.int .i64 1)) 3, none⟩,
    ⟨(some 10), .assign (.tmp 29), none⟩] [0, 1, 2, 3, 10])
  (.block 0 (.loop spec_LatestLeave_l0)))
  (.seq (.reg [⟨(some 8), .assign (.const (.int .i64 0)), none⟩,
    ⟨(some 9), .assign (.const (.bool false)), none⟩] [8, 9])
  .ret))))
theorem spec_LatestLeave_k : fnOk Try.prog (fun _ => false) 87 = some (spec_LatestLeave_c.strip, 63, [.tmp 8, .tmp 9]) := by kernel_rfl
/-- loop.example/g01062/spec.l9One: number 123, params [0] -/
def spec_l9One_c : ACode := (.seq (.reg [⟨(some 1), .box 113 (.tmp 0), none⟩,
    ⟨(some 2), .assign (.const (.bool false)), none⟩] [1])
  (.seq (.reg [⟨(some 3), .fieldAddr 113 (.tmp 1) 1, none⟩,
    ⟨(some 4), .load 3 (.tmp 3), none⟩,
    ⟨(some 5), .call ⟨.value (.func 107), #[(.tmp 4)], #[3]⟩, none⟩,
    ⟨(some 6), .move (.tmp 5), none⟩,
    ⟨(some 7), .fieldAddr 113 (.tmp 1) 2, (some (some 6, true))⟩,
    ⟨(some 8), .load 3 (.tmp 7), (some (some 6, true))⟩,
    ⟨(some 9), .call ⟨.value (.func 107), #[(.tmp 8)], #[3]⟩, (some (some 6, true))⟩,
    ⟨(some 10), .pick (.tmp 6) (.tmp 9) (.const (.bool false)), none⟩,
    ⟨(some 11), .move (.tmp 10), none⟩,
    ⟨(some 12), .fieldAddr 113 (.tmp 1) 1, (some (some 11, true))⟩,
    ⟨(some 13), .load 3 (.tmp 12), (some (some 11, true))⟩,
    ⟨(some 14), .fieldAddr 113 (.tmp 1) 2, (some (some 11, true))⟩,
    ⟨(some 15), .load 3 (.tmp 14), (some (some 11, true))⟩,
    ⟨(some 16), .binOp .neq 3 (.tmp 13) (.tmp 15) 3, (some (some 11, true))⟩,
    ⟨(some 17), .pick (.tmp 11) (.tmp 16) (.const (.bool false)), none⟩,
    ⟨(some 18), .move (.tmp 17), none⟩,
    ⟨(some 19), .fieldAddr 113 (.tmp 1) 3, (some (some 18, true))⟩,
    ⟨(some 20), .load 3 (.tmp 19), (some (some 18, true))⟩,
    ⟨(some 21), .call ⟨.value (.func 138), #[(.tmp 20)], #[3]⟩, (some (some 18, true))⟩,
    ⟨(some 22), .pick (.tmp 18) (.tmp 21) (.const (.bool false)), none⟩,
    ⟨(some 23), .move (.tmp 22), none⟩,
    ⟨(some 24), .fieldAddr 113 (.tmp 1) 0, (some (some 23, true))⟩,
    ⟨(some 25), .load 3 (.tmp 24), (some (some 23, true))⟩,
    ⟨(some 26), .fieldAddr 113 (.tmp 1) 3, (some (some 23, true))⟩,
    ⟨(some 27), .load 3 (.tmp 26), (some (some 23, true))⟩,
    ⟨(some 28), .binOp .sub 3 (.tmp 27) (.const (.int .i64 1)) 3, (some (some 23, true))⟩,
    ⟨(some 29), .call ⟨.value (.func 91), #[(.tmp 25), (.const (.int .i64 0)), (.tmp 28)], #[3, 3, 3]⟩, (some (some 23, true))⟩,
    ⟨(some 30), .pick (.tmp 23) (.tmp 29) (.const (.bool false)), none⟩,
    ⟨(some 2), .assign (.tmp 30), none⟩] [2])
  .ret))
theorem spec_l9One_k : fnOk Try.prog (fun _ => false) 123 = some (spec_l9One_c.strip, 31, [.tmp 2]) := by kernel_rfl
/-- loop.example/g01062/spec.l9Code: number 124, params [0] -/
def spec_l9Code_c : ACode := (.seq (.reg [⟨(some 1), .box 113 (.tmp 0), none⟩,
    ⟨(some 2), .assign (.const (.int .i64 0)), none⟩] [1])
  (.seq (.reg [⟨(some 3), .fieldAddr 113 (.tmp 1) 0, none⟩,
    ⟨(some 4), .load 3 (.tmp 3), none⟩,
    ⟨(some 5), .binOp .mul 3 (.tmp 4) (.const (.int .i64 10)) 3, none⟩,
    ⟨(some 6), .fieldAddr 113 (.tmp 1) 1, none⟩,
    ⟨(some 7), .load 3 (.tmp 6), none⟩,
    ⟨(some 8), .binOp .add 3 (.tmp 5) (.tmp 7) 3, none⟩,
    ⟨(some 9), .binOp .mul 3 (.tmp 8) (.const (.int .i64 10)) 3, none⟩,
    ⟨(some 10), .fieldAddr 113 (.tmp 1) 2, none⟩,
    ⟨(some 11), .load 3 (.tmp 10), none⟩,
    ⟨(some 12), .binOp .add 3 (.tmp 9) (.tmp 11) 3, none⟩,
    ⟨(some 13), .binOp .mul 3 (.tmp 12) (.const (.int .i64 10000)) 3, none⟩,
    ⟨(some 14), .fieldAddr 113 (.tmp 1) 3, none⟩,
    ⟨(some 15), .load 3 (.tmp 14), none⟩,
    ⟨(some 16), .binOp .add 3 (.tmp 13) (.tmp 15) 3, none⟩,
    ⟨(some 2), .assign (.tmp 16), none⟩] [2])
  .ret))
theorem spec_l9Code_k : fnOk Try.prog (fun _ => false) 124 = some (spec_l9Code_c.strip, 17, [.tmp 2]) := by kernel_rfl
/-- loop.example/g01062/impl.isMail: number 126, params [0] -/
def impl_isMail_c : ACode := (.seq (.reg [⟨(some 1), .box 113 (.tmp 0), none⟩,
    ⟨(some 2), .assign (.const (.bool false)), none⟩] [1])
  (.seq (.reg [⟨(some 3), .fieldAddr 113 (.tmp 1) 1, none⟩,
    ⟨(some 4), .load 3 (.tmp 3), none⟩,
    ⟨(some 5), .call ⟨.value (.func 83), #[(.tmp 4)], #[3]⟩, none⟩,
    ⟨(some 6), .move (.tmp 5), none⟩,
    ⟨(some 7), .fieldAddr 113 (.tmp 1) 2, (some (some 6, true))⟩,
    ⟨(some 8), .load 3 (.tmp 7), (some (some 6, true))⟩,
    ⟨(some 9), .call ⟨.value (.func 83), #[(.tmp 8)], #[3]⟩, (some (some 6, true))⟩,
    ⟨(some 10), .pick (.tmp 6) (.tmp 9) (.const (.bool false)), none⟩,
    ⟨(some 11), .move (.tmp 10), none⟩,
    ⟨(some 12), .fieldAddr 113 (.tmp 1) 1, (some (some 11, true))⟩,
    ⟨(some 13), .load 3 (.tmp 12), (some (some 11, true))⟩,
    ⟨(some 14), .fieldAddr 113 (.tmp 1) 2, (some (some 11, true))⟩,
    ⟨(some 15), .load 3 (.tmp 14), (some (some 11, true))⟩,
    ⟨(some 16), .binOp .neq 3 (.tmp 13) (.tmp 15) 3, (some (some 11, true))⟩,
    ⟨(some 17), .pick (.tmp 11) (.tmp 16) (.const (.bool false)), none⟩,
    ⟨(some 18), .move (.tmp 17), none⟩,
    ⟨(some 19), .fieldAddr 113 (.tmp 1) 0, (some (some 18, true))⟩,
    ⟨(some 20), .load 3 (.tmp 19), (some (some 18, true))⟩,
    ⟨(some 21), .fieldAddr 113 (.tmp 1) 3, (some (some 18, true))⟩,
    ⟨(some 22), .load 3 (.tmp 21), (some (some 18, true))⟩,
    ⟨(some 23), .binOp .sub 3 (.tmp 22) (.const (.int .i64 1)) 3, (some (some 18, true))⟩,
    ⟨(some 24), .call ⟨.value (.func 90), #[(.tmp 20), (.const (.int .i64 0)), (.tmp 23)], #[3, 3, 3]⟩, (some (some 18, true))⟩,
    ⟨(some 25), .pick (.tmp 18) (.tmp 24) (.const (.bool false)), none⟩,
    ⟨(some 26), .move (.tmp 25), none⟩,
    ⟨(some 27), .fieldAddr 113 (.tmp 1) 3, (some (some 26, true))⟩,
    ⟨(some 28), .load 3 (.tmp 27), (some (some 26, true))⟩,
    ⟨(some 29), .call ⟨.value (.func 84), #[(.tmp 28)], #[3]⟩, (some (some 26, true))⟩,
    ⟨(some 30), .pick (.tmp 26) (.tmp 29) (.const (.bool false)), none⟩,
    ⟨(some 2), .assign (.tmp 30), none⟩] [2])
  .ret))
theorem impl_isMail_k : fnOk Try.prog (fun _ => false) 126 = some (impl_isMail_c.strip, 31, [.tmp 2]) := by kernel_rfl
/-- head: [7, 16, 17, 18] -/
def impl_earliest_l0 : ACode := (.seq (.reg [⟨(some 19), .binOp .lss 3 (.tmp 18) (.tmp 17) 3, none⟩] [7, 16, 17, 18, 19])
  (.seq (.cond (.tmp 19) .skip
  (.exit 0))
  (.seq (.block 1 (.seq (.reg [⟨(some 20), .indexAddr 25 (.tmp 16) (.tmp 18), none⟩,
    ⟨(some 21), .load 113 (.tmp 20), none⟩,
    ⟨(some 9), .alloc 113, none⟩,
    ⟨none, .store 113 (.tmp 9) (.tmp 21), none⟩] [7, 9, 16, 17, 18])
  (.seq (.regQ [⟨(some 22), .move (.tmp 7), none⟩,
    ⟨(some 23), .fieldAddr 113 (.tmp 9) 1, none⟩,
    ⟨(some 24), .load 3 (.tmp 23), none⟩,
    ⟨(some 25), .indexAddr 33 (.tmp 22) (.tmp 24), none⟩,
    ⟨(some 26), .load 3 (.tmp 25), none⟩,
    ⟨(some 27), .fieldAddr 113 (.tmp 9) 0, none⟩,
    ⟨(some 28), .load 3 (.tmp 27), none⟩,
    ⟨(some 29), .call ⟨.value (.func 90), #[(.tmp 26), (.const (.int .i64 0)), (.tmp 28)], #[3, 3, 3]⟩, none⟩,
    ⟨(some 30), .move (.tmp 29), none⟩,
    ⟨(some 31), .move (.tmp 7), (some (some 30, true))⟩,
    ⟨(some 32), .fieldAddr 113 (.tmp 9) 2, (some (some 30, true))⟩,
    ⟨(some 33), .load 3 (.tmp 32), (some (some 30, true))⟩,
    ⟨(some 34), .indexAddr 33 (.tmp 31) (.tmp 33), (some (some 30, true))⟩,
    ⟨(some 35), .load 3 (.tmp 34), (some (some 30, true))⟩,
    ⟨(some 36), .binOp .lss 3 (.tmp 35) (.const (.int .i64 0)) 3, (some (some 30, true))⟩,
    ⟨(some 37), .move (.tmp 36), (some (some 30, true))⟩,
    ⟨(some 38), .fieldAddr 113 (.tmp 9) 3, (some (some 37, false))⟩,
    ⟨(some 39), .load 3 (.tmp 38), (some (some 37, false))⟩,
    ⟨(some 40), .move (.tmp 7), (some (some 37, false))⟩,
    ⟨(some 41), .fieldAddr 113 (.tmp 9) 2, (some (some 37, false))⟩,
    ⟨(some 42), .load 3 (.tmp 41), (some (some 37, false))⟩,
    ⟨(some 43), .indexAddr 33 (.tmp 40) (.tmp 42), (some (some 37, false))⟩,
    ⟨(some 44), .load 3 (.tmp 43), (some (some 37, false))⟩,
    ⟨(some 45), .binOp .lss 3 (.tmp 39) (.tmp 44) 3, (some (some 37, false))⟩,
    ⟨(some 46), .pick (.tmp 37) (.const (.bool true)) (.tmp 45), (some (some 30, true))⟩,
    ⟨(some 47), .pick (.tmp 30) (.tmp 46) (.const (.bool false)), none⟩] [7, 9, 16, 17, 18, 47])
  (.cond (.tmp 47) (.reg [⟨(some 48), .move (.tmp 7), none⟩,
    ⟨(some 49), .fieldAddr 113 (.tmp 9) 2, none⟩,
    ⟨(some 50), .load 3 (.tmp 49), none⟩,
    ⟨(some 51), .fieldAddr 113 (.tmp 9) 3, none⟩,
    ⟨(some 52), .load 3 (.tmp 51), none⟩,
    ⟨(some 53), .indexAddr 33 (.tmp 48) (.tmp 50), none⟩,
    ⟨none, .store 3 (.tmp 53) (.tmp 52), none⟩] [7, 16, 17, 18])
  .skip))))
  (.reg [⟨(some 54), .binOp .add 3 (.tmp 18) (.const (.int .i64 1)) 3, none⟩,
    ⟨(some 18), .move (.tmp 54), none⟩] [7, 16, 17, 18]))))
/-- loop.example/g01062/impl.earliest: number 131, params [0, 1, 2] -/
def impl_earliest_c : ACode := (.seq (.reg [⟨(some 6), .assign (.const (.slice none 0 0)), none⟩] [0, 1, 2])
  (.seq (.reg [⟨(some 10), .buildSlice 33 1 #[(0, (.const (.int .i64 (-1))))], none⟩,
    ⟨(some 11), .call ⟨.value (.func 157), #[(.tmp 10), (.const (.int .i64 10))], #[33, 3]⟩, none⟩,
    ⟨(some 7), .assign (.tmp 11), none⟩] [0, 1, 2, 7])
  (.seq (.reg [⟨(some 12), .move (.tmp 7), none⟩,
    ⟨(some 13), .move (.tmp 1), none⟩,
    ⟨(some 14), .move (.tmp 2), none⟩,
    ⟨(some 15), .indexAddr 33 (.tmp 12) (.tmp 13), none⟩,
    ⟨none, .store 3 (.tmp 15) (.tmp 14), none⟩] [0, 7])
  (.seq (.seq (.reg [⟨(some 16), .move (.tmp 0), none⟩,
    ⟨(some 17), .call ⟨.builtin .len, #[(.tmp 16)], #[25]⟩, none⟩,
    ⟨(some 18), .move (.const (.int .i64 0)), none⟩] [7, 16, 17, 18])
  (.block 0 (.loop impl_earliest_l0)))
  (.seq (.reg [⟨(some 55), .move (.tmp 7), none⟩,
    ⟨(some 6), .assign (.tmp 55), none⟩] [6])
  .ret)))))
theorem impl_earliest_k : fnOk Try.prog (fun _ => false) 131 = some (impl_earliest_c.strip, 56, [.tmp 6]) := by kernel_rfl
/-- head: [0, 1, 2, 7, 8] -/
def spec_l9Times_l0 : ACode := (.seq (.seq (.reg [⟨(some 12), .move (.tmp 8), none⟩,
    ⟨(some 13), .move (.tmp 7), none⟩,
    ⟨(some 14), .call ⟨.builtin .len, #[(.tmp 13)], #[33]⟩, none⟩,
    ⟨(some 15), .binOp .lss 3 (.tmp 12) (.tmp 14) 3, none⟩] [0, 1, 2, 7, 8, 15])
  (.cond (.tmp 15) .skip
  (.exit 0)))
  (.seq (.block 1 (.reg [⟨(some 18), .move (.tmp 7), none⟩,
    ⟨(some 19), .move (.tmp 8), none⟩,
    ⟨(some 20), .indexAddr 33 (.tmp 18) (.tmp 19), none⟩,
    ⟨none, .store 3 (.tmp 20) (.const (.int .i64 10000)), none⟩] [0, 1, 2, 7, 8]))
  (.reg [⟨(some 16), .move (.tmp 8), none⟩,
    ⟨(some 17), .binOp .add 3 (.tmp 16) (.const (.int .i64 1)) 3, none⟩,
    ⟨(some 8), .assign (.tmp 17), none⟩] [0, 1, 2, 7, 8])))
/-- head: [0, 7, 9] -/
def spec_l9Times_l1 : ACode := (.seq (.seq (.reg [⟨(some 25), .move (.tmp 9), none⟩,
    ⟨(some 26), .move (.tmp 0), none⟩,
    ⟨(some 27), .call ⟨.builtin .len, #[(.tmp 26)], #[25]⟩, none⟩,
    ⟨(some 28), .binOp .lss 3 (.tmp 25) (.tmp 27) 3, none⟩] [0, 7, 9, 28])
  (.cond (.tmp 28) .skip
  (.exit 2)))
  (.seq (.block 3 (.seq (.reg [⟨(some 31), .move (.tmp 0), none⟩,
    ⟨(some 32), .move (.tmp 9), none⟩,
    ⟨(some 33), .indexAddr 25 (.tmp 31) (.tmp 32), none⟩,
    ⟨(some 34), .load 113 (.tmp 33), none⟩,
    ⟨(some 10), .alloc 113, none⟩,
    ⟨none, .store 113 (.tmp 10) (.tmp 34), none⟩] [0, 7, 9, 10])
  (.seq (.regQ [⟨(some 35), .move (.tmp 7), none⟩,
    ⟨(some 36), .fieldAddr 113 (.tmp 10) 1, none⟩,
    ⟨(some 37), .load 3 (.tmp 36), none⟩,
    ⟨(some 38), .indexAddr 33 (.tmp 35) (.tmp 37), none⟩,
    ⟨(some 39), .load 3 (.tmp 38), none⟩,
    ⟨(some 40), .fieldAddr 113 (.tmp 10) 0, none⟩,
    ⟨(some 41), .load 3 (.tmp 40), none⟩,
    ⟨(some 42), .binOp .leq 3 (.tmp 39) (.tmp 41) 3, none⟩] [0, 7, 9, 10, 42])
  (.cond (.tmp 42) (.regT [⟨(some 43), .move (.tmp 7), none⟩,
    ⟨(some 44), .fieldAddr 113 (.tmp 10) 2, none⟩,
    ⟨(some 45), .load 3 (.tmp 44), none⟩,
    ⟨(some 46), .move (.tmp 7), none⟩,
    ⟨(some 47), .fieldAddr 113 (.tmp 10) 2, none⟩,
    ⟨(some 48), .load 3 (.tmp 47), none⟩,
    ⟨(some 49), .indexAddr 33 (.tmp 46) (.tmp 48), none⟩,
    ⟨(some 50), .load 3 (.tmp 49), none⟩,
    ⟨(some 51), .fieldAddr 113 (.tmp 10) 3, none⟩,
    ⟨(some 52), .load 3 (.tmp 51), none⟩,
    ⟨(some 53), .call ⟨.value (.func 158), #[(.tmp 50), (.tmp 52)], #[3, 3]⟩, none⟩,
    ⟨(some 54), .indexAddr 33 (.tmp 43) (.tmp 45), none⟩]
    [⟨none, .store 3 (.tmp 54) (.tmp 53), none⟩] [0, 7, 9])
  .skip))))
  (.reg [⟨(some 29), .move (.tmp 9), none⟩,
    ⟨(some 30), .binOp .add 3 (.tmp 29) (.const (.int .i64 1)) 3, none⟩,
    ⟨(some 9), .assign (.tmp 30), none⟩] [0, 7, 9])))
/-- loop.example/g01062/spec.l9Times: number 139, params [0, 1, 2] -/
def spec_l9Times_c : ACode := (.seq (.reg [⟨(some 6), .assign (.const (.slice none 0 0)), none⟩] [0, 1, 2])
  (.seq (.reg [⟨(some 11), .makeSlice 33 (.const (.int .i64 10)) (.const (.int .i64 10)), none⟩,
    ⟨(some 7), .assign (.tmp 11), none⟩] [0, 1, 2, 7])
  (.seq (.seq (.reg [⟨(some 8), .assign (.const (.int .i64 0)), none⟩] [0, 1, 2, 7, 8])
  (.block 0 (.loop spec_l9Times_l0)))
  (.seq (.reg [⟨(some 21), .move (.tmp 7), none⟩,
    ⟨(some 22), .move (.tmp 1), none⟩,
    ⟨(some 23), .move (.tmp 2), none⟩,
    ⟨(some 24), .indexAddr 33 (.tmp 21) (.tmp 22), none⟩,
    ⟨none, .store 3 (.tmp 24) (.tmp 23), none⟩] [0, 7])
  (.seq (.seq (.reg [⟨(some 9), .assign (.const (.int .i64 0)), none⟩] [0, 7, 9])
  (.block 2 (.loop spec_l9Times_l1)))
  (.seq (.reg [⟨(some 55), .move (.tmp 7), none⟩,
    ⟨(some 6), .assign (.tmp 55), none⟩] [6])
  .ret))))))
theorem spec_l9Times_k : fnOk Try.prog (fun _ => false) 139 = some (spec_l9Times_c.strip, 56, [.tmp 6]) := by kernel_rfl
/-- head: [0, 1, 2, 3, 10, 11, 26, 27, 28] -/
def impl_bestRoute_l0 : ACode := (.seq (.reg [⟨(some 29), .binOp .lss 3 (.tmp 28) (.tmp 27) 3, none⟩] [0, 1, 2, 3, 10, 11, 26, 27, 28, 29])
  (.seq (.cond (.tmp 29) .skip
  (.exit 2))
  (.seq (.block 3 (.seq (.reg [⟨(some 30), .move (.tmp 28), none⟩,
    ⟨(some 31), .indexAddr 25 (.tmp 26) (.tmp 28), none⟩,
    ⟨(some 32), .load 113 (.tmp 31), none⟩,
    ⟨(some 13), .alloc 113, none⟩,
    ⟨(some 12), .assign (.tmp 30), none⟩,
    ⟨none, .store 113 (.tmp 13) (.tmp 32), none⟩] [0, 1, 2, 3, 10, 11, 12, 13, 26, 27, 28])
  (.seq (.reg [⟨(some 33), .fieldAddr 113 (.tmp 13) 1, none⟩,
    ⟨(some 34), .load 3 (.tmp 33), none⟩,
    ⟨(some 35), .move (.tmp 1), none⟩,
    ⟨(some 36), .binOp .eql 3 (.tmp 34) (.tmp 35) 3, none⟩,
    ⟨(some 37), .move (.tmp 36), none⟩,
    ⟨(some 38), .fieldAddr 113 (.tmp 13) 0, (some (some 37, true))⟩,
    ⟨(some 39), .load 3 (.tmp 38), (some (some 37, true))⟩,
    ⟨(some 40), .move (.tmp 2), (some (some 37, true))⟩,
    ⟨(some 41), .binOp .geq 3 (.tmp 39) (.tmp 40) 3, (some (some 37, true))⟩,
    ⟨(some 42), .pick (.tmp 37) (.tmp 41) (.const (.bool false)), none⟩,
    ⟨(some 43), .move (.tmp 42), none⟩,
    ⟨(some 44), .move (.tmp 0), (some (some 43, true))⟩,
    ⟨(some 45), .fieldAddr 113 (.tmp 13) 2, (some (some 43, true))⟩,
    ⟨(some 46), .load 3 (.tmp 45), (some (some 43, true))⟩,
    ⟨(some 47), .fieldAddr 113 (.tmp 13) 3, (some (some 43, true))⟩,
    ⟨(some 48), .load 3 (.tmp 47), (some (some 43, true))⟩,
    ⟨(some 49), .call ⟨.value (.func 131), #[(.tmp 44), (.tmp 46), (.tmp 48)], #[25, 3, 3]⟩, (some (some 43, true))⟩,
    ⟨(some 50), .move (.tmp 3), (some (some 43, true))⟩,
    ⟨(some 51), .indexAddr 33 (.tmp 49) (.tmp 50), (some (some 43, true))⟩,
    ⟨(some 52), .load 3 (.tmp 51), (some (some 43, true))⟩,
    ⟨(some 53), .move (.tmp 10), (some (some 43, true))⟩,
    ⟨(some 54), .binOp .eql 3 (.tmp 52) (.tmp 53) 3, (some (some 43, true))⟩,
    ⟨(some 55), .pick (.tmp 43) (.tmp 54) (.const (.bool false)), none⟩] [0, 1, 2, 3, 10, 11, 12, 13, 26, 27, 28, 55])
  (.cond (.tmp 55) (.seq (.reg [⟨(some 56), .move (.tmp 11), none⟩,
    ⟨(some 57), .move (.tmp 12), none⟩,
    ⟨(some 58), .buildSlice 33 1 #[(0, (.tmp 57))], none⟩,
    ⟨(some 59), .call ⟨.builtin .append, #[(.tmp 56), (.tmp 58)], #[33, 33]⟩, none⟩,
    ⟨(some 11), .assign (.tmp 59), none⟩] [0, 3, 10, 11, 13])
  (.seq (.regQ [⟨(some 60), .fieldAddr 113 (.tmp 13) 2, none⟩,
    ⟨(some 61), .load 3 (.tmp 60), none⟩,
    ⟨(some 62), .fieldAddr 113 (.tmp 13) 3, none⟩,
    ⟨(some 63), .load 3 (.tmp 62), none⟩,
    ⟨(some 1), .assign (.tmp 61), none⟩,
    ⟨(some 2), .assign (.tmp 63), none⟩] [0, 1, 2, 3, 10, 11])
  (.exit 2)))
  .skip))))
  (.reg [⟨(some 64), .binOp .add 3 (.tmp 28) (.const (.int .i64 1)) 3, none⟩,
    ⟨(some 28), .move (.tmp 64), none⟩] [0, 1, 2, 3, 10, 11, 26, 27, 28]))))
/-- head: [0, 1, 2, 3, 10, 11] -/
def impl_bestRoute_l1 : ACode := (.seq (.seq (.reg [⟨(some 23), .move (.tmp 1), none⟩,
    ⟨(some 24), .move (.tmp 3), none⟩,
    ⟨(some 25), .binOp .neq 3 (.tmp 23) (.tmp 24) 3, none⟩] [0, 1, 2, 3, 10, 11, 25])
  (.cond (.tmp 25) .skip
  (.exit 0)))
  (.block 1 (.seq (.reg [⟨(some 26), .move (.tmp 0), none⟩,
    ⟨(some 27), .call ⟨.builtin .len, #[(.tmp 26)], #[25]⟩, none⟩,
    ⟨(some 28), .move (.const (.int .i64 0)), none⟩] [0, 1, 2, 3, 10, 11, 26, 27, 28])
  (.block 2 (.loop impl_bestRoute_l0)))))
/-- loop.example/g01062/impl.bestRoute: number 140, params [0, 1, 2, 3] -/
def impl_bestRoute_c : ACode := (.seq (.reg [⟨(some 8), .assign (.const (.slice none 0 0)), none⟩,
    ⟨(some 9), .assign (.const (.bool false)), none⟩] [0, 1, 2, 3])
  (.seq (.reg [⟨(some 14), .move (.tmp 0), none⟩,
    ⟨(some 15), .move (.tmp 1), none⟩,
    ⟨(some 16), .move (.tmp 2), none⟩,
    ⟨(some 17), .call ⟨.value (.func 131), #[(.tmp 14), (.tmp 15), (.tmp 16)], #[25, 3, 3]⟩, none⟩,
    ⟨(some 18), .move (.tmp 3), none⟩,
    ⟨(some 19), .indexAddr 33 (.tmp 17) (.tmp 18), none⟩,
    ⟨(some 20), .load 3 (.tmp 19), none⟩,
    ⟨(some 10), .assign (.tmp 20), none⟩] [0, 1, 2, 3, 10])
  (.seq (.seq (.reg [⟨(some 21), .move (.tmp 10), none⟩,
    ⟨(some 22), .binOp .lss 3 (.tmp 21) (.const (.int .i64 0)) 3, none⟩] [0, 1, 2, 3, 10, 22])
  (.cond (.tmp 22) (.seq (.reg [⟨(some 8), .assign (.const (.slice none 0 0)), none⟩,
    ⟨(some 9), .assign (.const (.bool false)), none⟩] [8, 9])
  .ret)
  .skip))
  (.seq (.reg [⟨(some 11), .assign (.const (.slice none 0 0)), none⟩] [0, 1, 2, 3, 10, 11])
  (.seq (.block 0 (.loop impl_bestRoute_l1))
  (.seq (.reg [⟨(some 65), .move (.tmp 11), none⟩,
    ⟨(some 8), .assign (.tmp 65), none⟩,
    ⟨(some 9), .assign (.const (.bool true)), none⟩] [8, 9])
  .ret))))))
theorem impl_bestRoute_k : fnOk Try.prog (fun _ => false) 140 = some (impl_bestRoute_c.strip, 66, [.tmp 8, .tmp 9]) := by kernel_rfl
/-- loop.example/g01062/spec.EarliestAt: number 141, params [0, 1, 2, 3] -/
def spec_EarliestAt_c : ACode := (.seq (.reg [⟨(some 8), .assign (.const (.int .i64 0)), none⟩,
    ⟨(some 9), .assign (.const (.bool false)), none⟩] [0, 1, 2, 3])
  (.seq (.seq (.reg [⟨(some 11), .move (.tmp 0), none⟩,
    ⟨(some 12), .move (.tmp 1), none⟩,
    ⟨(some 13), .move (.tmp 2), none⟩,
    ⟨(some 14), .call ⟨.value (.func 143), #[(.tmp 11), (.tmp 12), (.tmp 13)], #[25, 3, 3]⟩, none⟩,
    ⟨(some 15), .unOp .not 4 (.tmp 14), none⟩,
    ⟨(some 16), .move (.tmp 15), none⟩,
    ⟨(some 17), .move (.tmp 3), (some (some 16, false))⟩,
    ⟨(some 18), .call ⟨.value (.func 107), #[(.tmp 17)], #[3]⟩, (some (some 16, false))⟩,
    ⟨(some 19), .unOp .not 4 (.tmp 18), (some (some 16, false))⟩,
    ⟨(some 20), .pick (.tmp 16) (.const (.bool true)) (.tmp 19), none⟩] [0, 1, 2, 3, 20])
  (.cond (.tmp 20) (.seq (.reg [⟨(some 8), .assign (.const (.int .i64 0)), none⟩,
    ⟨(some 9), .assign (.const (.bool false)), none⟩] [8, 9])
  .ret)
  .skip))
  (.seq (.reg [⟨(some 21), .move (.tmp 0), none⟩,
    ⟨(some 22), .move (.tmp 1), none⟩,
    ⟨(some 23), .move (.tmp 2), none⟩,
    ⟨(some 24), .call ⟨.value (.func 139), #[(.tmp 21), (.tmp 22), (.tmp 23)], #[25, 3, 3]⟩, none⟩,
    ⟨(some 25), .move (.tmp 3), none⟩,
    ⟨(some 26), .indexAddr 33 (.tmp 24) (.tmp 25), none⟩,
    ⟨(some 27), .load 3 (.tmp 26), none⟩,
    ⟨(some 10), .assign (.tmp 27), none⟩] [10])
  (.seq (.seq (.reg [⟨(some 28), .move (.tmp 10), none⟩,
    ⟨(some 29), .binOp .eql 3 (.tmp 28) (.const (.int .i64 10000)) 3, none⟩] [10, 29])
  (.cond (.tmp 29) (.seq (.reg [⟨(some 8), .assign (.const (.int .i64 0)), none⟩,
    ⟨(some 9), .assign (.const (.bool false)), none⟩] [8, 9])
  .ret)
  .skip))
  (.seq (.reg [⟨(some 30), .move (.tmp 10), none⟩,
    ⟨(some 8), .assign (.tmp 30), none⟩,
    ⟨(some 9), .assign (.const (.bool true)), none⟩] [8, 9])
  .ret)))))
theorem spec_EarliestAt_k : fnOk Try.prog (fun _ => false) 141 = some (spec_EarliestAt_c.strip, 31, [.tmp 8, .tmp 9]) := by kernel_rfl
/-- head: [0, 1, 2, 3, 10, 11, 13] -/
def spec_BestRoute_l0 : ACode := (.seq (.seq (.reg [⟨(some 35), .move (.tmp 13), none⟩,
    ⟨(some 36), .move (.tmp 0), none⟩,
    ⟨(some 37), .call ⟨.builtin .len, #[(.tmp 36)], #[25]⟩, none⟩,
    ⟨(some 38), .binOp .lss 3 (.tmp 35) (.tmp 37) 3, none⟩] [0, 1, 2, 3, 10, 11, 13, 38])
  (.cond (.tmp 38) .skip
  (.exit 2)))
  (.seq (.block 3 (.seq (.reg [⟨(some 41), .move (.tmp 0), none⟩,
    ⟨(some 42), .move (.tmp 13), none⟩,
    ⟨(some 43), .indexAddr 25 (.tmp 41) (.tmp 42), none⟩,
    ⟨(some 44), .load 113 (.tmp 43), none⟩,
    ⟨(some 14), .alloc 113, none⟩,
    ⟨none, .store 113 (.tmp 14) (.tmp 44), none⟩] [0, 1, 2, 3, 10, 11, 13, 14])
  (.seq (.reg [⟨(some 45), .fieldAddr 113 (.tmp 14) 1, none⟩,
    ⟨(some 46), .load 3 (.tmp 45), none⟩,
    ⟨(some 47), .move (.tmp 1), none⟩,
    ⟨(some 48), .binOp .eql 3 (.tmp 46) (.tmp 47) 3, none⟩,
    ⟨(some 49), .move (.tmp 48), none⟩,
    ⟨(some 50), .fieldAddr 113 (.tmp 14) 0, (some (some 49, true))⟩,
    ⟨(some 51), .load 3 (.tmp 50), (some (some 49, true))⟩,
    ⟨(some 52), .move (.tmp 2), (some (some 49, true))⟩,
    ⟨(some 53), .binOp .geq 3 (.tmp 51) (.tmp 52) 3, (some (some 49, true))⟩,
    ⟨(some 54), .pick (.tmp 49) (.tmp 53) (.const (.bool false)), none⟩,
    ⟨(some 55), .move (.tmp 54), none⟩,
    ⟨(some 56), .move (.tmp 0), (some (some 55, true))⟩,
    ⟨(some 57), .fieldAddr 113 (.tmp 14) 2, (some (some 55, true))⟩,
    ⟨(some 58), .load 3 (.tmp 57), (some (some 55, true))⟩,
    ⟨(some 59), .fieldAddr 113 (.tmp 14) 3, (some (some 55, true))⟩,
    ⟨(some 60), .load 3 (.tmp 59), (some (some 55, true))⟩,
    ⟨(some 61), .call ⟨.value (.func 139), #[(.tmp 56), (.tmp 58), (.tmp 60)], #[25, 3, 3]⟩, (some (some 55, true))⟩,
    ⟨(some 62), .move (.tmp 3), (some (some 55, true))⟩,
    ⟨(some 63), .indexAddr 33 (.tmp 61) (.tmp 62), (some (some 55, true))⟩,
    ⟨(some 64), .load 3 (.tmp 63), (some (some 55, true))⟩,
    ⟨(some 65), .move (.tmp 11), (some (some 55, true))⟩,
    ⟨(some 66), .binOp .eql 3 (.tmp 64) (.tmp 65) 3, (some (some 55, true))⟩,
    ⟨(some 67), .pick (.tmp 55) (.tmp 66) (.const (.bool false)), none⟩] [0, 1, 2, 3, 10, 11, 13, 14, 67])
  (.cond (.tmp 67) (.seq (.reg [⟨(some 68), .move (.tmp 10), none⟩,
    ⟨(some 69), .move (.tmp 13), none⟩,
    ⟨(some 70), .buildSlice 33 1 #[(0, (.tmp 69))], none⟩,
    ⟨(some 71), .call ⟨.builtin .append, #[(.tmp 68), (.tmp 70)], #[33, 33]⟩, none⟩,
    ⟨(some 10), .assign (.tmp 71), none⟩] [0, 3, 10, 11, 14])
  (.seq (.reg [⟨(some 72), .fieldAddr 113 (.tmp 14) 2, none⟩,
    ⟨(some 73), .load 3 (.tmp 72), none⟩,
    ⟨(some 1), .assign (.tmp 73), none⟩] [0, 1, 3, 10, 11, 14])
  (.seq (.reg [⟨(some 74), .fieldAddr 113 (.tmp 14) 3, none⟩,
    ⟨(some 75), .load 3 (.tmp 74), none⟩,
    ⟨(some 2), .assign (.tmp 75), none⟩] [0, 1, 2, 3, 10, 11])
  (.exit 2))))
  .skip))))
  (.reg [⟨(some 39), .move (.tmp 13), none⟩,
    ⟨(some 40), .binOp .add 3 (.tmp 39) (.const (.int .i64 1)) 3, none⟩,
    ⟨(some 13), .assign (.tmp 40), none⟩] [0, 1, 2, 3, 10, 11, 13])))
/-- head: [0, 1, 2, 3, 10, 11] -/
def spec_BestRoute_l1 : ACode := (.seq (.seq (.reg [⟨(some 27), .move (.tmp 1), none⟩,
    ⟨(some 28), .move (.tmp 3), none⟩,
    ⟨(some 29), .binOp .neq 3 (.tmp 27) (.tmp 28) 3, none⟩,
    ⟨(some 30), .move (.tmp 29), none⟩,
    ⟨(some 31), .move (.tmp 2), (some (some 30, false))⟩,
    ⟨(some 32), .move (.tmp 11), (some (some 30, false))⟩,
    ⟨(some 33), .binOp .neq 3 (.tmp 31) (.tmp 32) 3, (some (some 30, false))⟩,
    ⟨(some 34), .pick (.tmp 30) (.const (.bool true)) (.tmp 33), none⟩] [0, 1, 2, 3, 10, 11, 34])
  (.cond (.tmp 34) .skip
  (.exit 0)))
  (.block 1 (.seq (.reg [⟨(some 13), .assign (.const (.int .i64 0)), none⟩] [0, 1, 2, 3, 10, 11, 13])
  (.block 2 (.loop spec_BestRoute_l0)))))
/-- loop.example/g01062/spec.BestRoute: number 142, params [0, 1, 2, 3] -/
def spec_BestRoute_c : ACode := (.seq (.reg [⟨(some 8), .assign (.const (.slice none 0 0)), none⟩,
    ⟨(some 9), .assign (.const (.bool false)), none⟩] [0, 1, 2, 3])
  (.seq (.reg [⟨(some 15), .buildSlice 33 0 #[], none⟩,
    ⟨(some 10), .assign (.tmp 15), none⟩] [0, 1, 2, 3, 10])
  (.seq (.reg [⟨(some 17), .move (.tmp 0), none⟩,
    ⟨(some 18), .move (.tmp 1), none⟩,
    ⟨(some 19), .move (.tmp 2), none⟩,
    ⟨(some 20), .move (.tmp 3), none⟩,
    ⟨(some 21), .call ⟨.value (.func 141), #[(.tmp 17), (.tmp 18), (.tmp 19), (.tmp 20)], #[25, 3, 3, 3]⟩, none⟩,
    ⟨(some 16), .move (.tmp 21), none⟩,
    ⟨(some 22), .extract (.tmp 16) 0, none⟩,
    ⟨(some 23), .extract (.tmp 16) 1, none⟩,
    ⟨(some 11), .assign (.tmp 22), none⟩,
    ⟨(some 12), .assign (.tmp 23), none⟩] [0, 1, 2, 3, 10, 11, 12])
  (.seq (.seq (.reg [⟨(some 24), .move (.tmp 12), none⟩,
    ⟨(some 25), .unOp .not 4 (.tmp 24), none⟩] [0, 1, 2, 3, 10, 11, 25])
  (.cond (.tmp 25) (.seq (.reg [⟨(some 26), .move (.tmp 10), none⟩,
    ⟨(some 8), .assign (.tmp 26), none⟩,
    ⟨(some 9), .assign (.const (.bool false)), none⟩] [8, 9])
  .ret)
  .skip))
  (.seq (.block 0 (.loop spec_BestRoute_l1))
  (.seq (.reg [⟨(some 76), .move (.tmp 10), none⟩,
    ⟨(some 8), .assign (.tmp 76), none⟩,
    ⟨(some 9), .assign (.const (.bool true)), none⟩] [8, 9])
  .ret))))))
theorem spec_BestRoute_k : fnOk Try.prog (fun _ => false) 142 = some (spec_BestRoute_c.strip, 77, [.tmp 8, .tmp 9]) := by kernel_rfl
/-- loop.example/g01062/spec.l9Asked: number 143, params [0, 1, 2] -/
def spec_l9Asked_c : ACode := (.seq (.reg [⟨(some 6), .assign (.const (.bool false)), none⟩] [0, 1, 2])
  (.seq (.reg [⟨(some 7), .move (.tmp 0), none⟩,
    ⟨(some 8), .call ⟨.value (.func 75), #[(.tmp 7)], #[25]⟩, none⟩,
    ⟨(some 9), .move (.tmp 8), none⟩,
    ⟨(some 10), .move (.tmp 1), (some (some 9, true))⟩,
    ⟨(some 11), .call ⟨.value (.func 107), #[(.tmp 10)], #[3]⟩, (some (some 9, true))⟩,
    ⟨(some 12), .pick (.tmp 9) (.tmp 11) (.const (.bool false)), none⟩,
    ⟨(some 13), .move (.tmp 12), none⟩,
    ⟨(some 14), .move (.tmp 2), (some (some 13, true))⟩,
    ⟨(some 15), .call ⟨.value (.func 138), #[(.tmp 14)], #[3]⟩, (some (some 13, true))⟩,
    ⟨(some 16), .pick (.tmp 13) (.tmp 15) (.const (.bool false)), none⟩,
    ⟨(some 6), .assign (.tmp 16), none⟩] [6])
  .ret))
theorem spec_l9Asked_k : fnOk Try.prog (fun _ => false) 143 = some (spec_l9Asked_c.strip, 17, [.tmp 6]) := by kernel_rfl
/-- head: [7, 8] -/
def slices_Repeat___int_int__l0 : ACode := (.seq (.seq (.reg [⟨(some 34), .move (.tmp 8), none⟩,
    ⟨(some 35), .move (.tmp 7), none⟩,
    ⟨(some 36), .call ⟨.builtin .len, #[(.tmp 35)], #[33]⟩, none⟩,
    ⟨(some 37), .binOp .lss 3 (.tmp 34) (.tmp 36) 3, none⟩] [7, 8, 37])
  (.cond (.tmp 37) .skip
  (.exit 0)))
  (.block 1 (.regF []
    [39, 40, 41, 42, 43, 44, 38, 46] [] [] []
    [⟨(some 39), .move (.tmp 7), none⟩,
    ⟨(some 40), .move (.tmp 8), none⟩,
    ⟨(some 41), .slice 33 (.tmp 39) (some (.tmp 40)) none none, none⟩,
    ⟨(some 42), .move (.tmp 7), none⟩,
    ⟨(some 43), .move (.tmp 8), none⟩,
    ⟨(some 44), .slice 33 (.tmp 42) none (some (.tmp 43)) none, none⟩,
    ⟨(some 45), .call ⟨.builtin .copy, #[(.tmp 41), (.tmp 44)], #[33, 33]⟩, none⟩,
    ⟨(some 38), .move (.tmp 8), none⟩,
    ⟨(some 46), .binOp .add 3 (.tmp 38) (.tmp 45) 3, none⟩,
    ⟨(some 8), .assign (.tmp 46), none⟩] [7, 8])))
/-- slices.Repeat[[]int,int]: number 157, params [0, 1] -/
def slices_Repeat___int_int__c : ACode := (.seq (.reg [⟨(some 4), .assign (.const (.slice none 0 0)), none⟩] [0, 1])
  (.seq (.seq (.reg [⟨(some 9), .move (.tmp 1), none⟩,
    ⟨(some 10), .binOp .lss 3 (.tmp 9) (.const (.int .i64 0)) 3, none⟩] [0, 1, 10])
  (.cond (.tmp 10) (.reg [⟨(some 11), .makeInterface 9 (.const (.string ⟨#[99, 97, 110, 110, 111, 116, 32, 98, 101, 32, 110, 101, 103, 97, 116, 105, 118, 101]⟩)), none⟩,
    ⟨none, .panic (.tmp 11), none⟩] [0, 1])
  .skip))
  (.seq (.reg [⟨(some 13), .move (.tmp 0), none⟩,
    ⟨(some 14), .call ⟨.builtin .len, #[(.tmp 13)], #[33]⟩, none⟩,
    ⟨(some 15), .convert 3 141 (.tmp 14), none⟩,
    ⟨(some 16), .move (.tmp 1), none⟩,
    ⟨(some 17), .convert 3 141 (.tmp 16), none⟩,
    ⟨(some 18), .call ⟨.value (.func 166), #[(.tmp 15), (.tmp 17)], #[141, 141]⟩, none⟩,
    ⟨(some 12), .move (.tmp 18), none⟩,
    ⟨(some 19), .extract (.tmp 12) 0, none⟩,
    ⟨(some 20), .extract (.tmp 12) 1, none⟩,
    ⟨(some 5), .assign (.tmp 19), none⟩,
    ⟨(some 6), .assign (.tmp 20), none⟩] [0, 5, 6])
  (.seq (.seq (.reg [⟨(some 21), .move (.tmp 5), none⟩,
    ⟨(some 22), .binOp .gtr 141 (.tmp 21) (.const (.int .u64 0)) 141, none⟩,
    ⟨(some 23), .move (.tmp 22), none⟩,
    ⟨(some 24), .move (.tmp 6), (some (some 23, false))⟩,
    ⟨(some 25), .binOp .gtr 141 (.tmp 24) (.const (.int .u64 9223372036854775807)) 141, (some (some 23, false))⟩,
    ⟨(some 26), .pick (.tmp 23) (.const (.bool true)) (.tmp 25), none⟩] [0, 6, 26])
  (.cond (.tmp 26) (.reg [⟨(some 27), .makeInterface 9 (.const (.string ⟨#[116, 104, 101, 32, 114, 101, 115, 117, 108, 116, 32, 111, 102, 32, 40, 108, 101, 110, 40, 120, 41, 32, 42, 32, 99, 111, 117, 110, 116, 41, 32, 111, 118, 101, 114, 102, 108, 111, 119, 115]⟩)), none⟩,
    ⟨none, .panic (.tmp 27), none⟩] [0, 6])
  .skip))
  (.seq (.reg [⟨(some 28), .move (.tmp 6), none⟩,
    ⟨(some 29), .convert 141 3 (.tmp 28), none⟩,
    ⟨(some 30), .makeSlice 33 (.tmp 29) (.tmp 29), none⟩,
    ⟨(some 7), .assign (.tmp 30), none⟩] [0, 7])
  (.seq (.reg [⟨(some 31), .move (.tmp 7), none⟩,
    ⟨(some 32), .move (.tmp 0), none⟩,
    ⟨(some 33), .call ⟨.builtin .copy, #[(.tmp 31), (.tmp 32)], #[33, 33]⟩, none⟩,
    ⟨(some 8), .assign (.tmp 33), none⟩] [7, 8])
  (.seq (.block 0 (.loop slices_Repeat___int_int__l0))
  (.seq (.reg [⟨(some 47), .move (.tmp 7), none⟩,
    ⟨(some 4), .assign (.tmp 47), none⟩] [4])
  .ret))))))))
theorem slices_Repeat___int_int__k : fnOk Try.prog (fun _ => false) 157 = some (slices_Repeat___int_int__c.strip, 48, [.tmp 4]) := by kernel_rfl
end Go.Proofs.Ytjiffkjeijfilaa

