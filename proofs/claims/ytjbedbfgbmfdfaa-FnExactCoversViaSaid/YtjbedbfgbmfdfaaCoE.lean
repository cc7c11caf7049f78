/- Printed by a program of ours: the functions' abstract code and facts on their types. -/
import Derived.Test.YtjbedbfgbmfdfaaCoC
set_option maxRecDepth 8000
namespace Go.Proofs.Ytjbedbfgbmfdfaa
open Go Go.RowKit

/-- loop.example/g01062/laws.FnExactCoversVia: number 3, params [0, 1, 2] -/
def laws_FnExactCoversVia_c : ACode := (.seq (.reg [⟨(some 6), .assign (.const (.bool false)), none⟩] [0, 1, 2])
  (.seq (.reg [⟨(some 7), .assign (.const (.int .i64 1048576)), none⟩] [0, 1, 2, 7])
  (.seq (.reg [⟨(some 19), .move (.tmp 0), none⟩,
    ⟨(some 20), .move (.tmp 7), none⟩,
    ⟨(some 21), .call ⟨.value (.func 8), #[(.tmp 19), (.tmp 20)], #[22, 3]⟩, none⟩,
    ⟨(some 7), .assign (.tmp 21), none⟩] [0, 1, 2, 7])
  (.seq (.seq (.reg [⟨(some 22), .move (.tmp 7), none⟩,
    ⟨(some 23), .binOp .lss 3 (.tmp 22) (.const (.int .i64 0)) 3, none⟩] [0, 1, 2, 7, 23])
  (.cond (.tmp 23) (.seq (.reg [⟨(some 6), .assign (.const (.bool true)), none⟩] [6])
  .ret)
  .skip))
  (.seq (.reg [⟨(some 24), .move (.tmp 1), none⟩,
    ⟨(some 25), .move (.tmp 7), none⟩,
    ⟨(some 26), .call ⟨.value (.func 9), #[(.tmp 24), (.tmp 25)], #[23, 3]⟩, none⟩,
    ⟨(some 7), .assign (.tmp 26), none⟩] [0, 1, 2, 7])
  (.seq (.seq (.reg [⟨(some 27), .move (.tmp 7), none⟩,
    ⟨(some 28), .binOp .lss 3 (.tmp 27) (.const (.int .i64 0)) 3, none⟩] [0, 1, 2, 28])
  (.cond (.tmp 28) (.seq (.reg [⟨(some 6), .assign (.const (.bool true)), none⟩] [6])
  .ret)
  .skip))
  (.seq (.reg [⟨(some 30), .move (.tmp 0), none⟩,
    ⟨(some 31), .call ⟨.value (.func 11), #[(.tmp 30)], #[22]⟩, none⟩,
    ⟨(some 32), .move (.tmp 1), none⟩,
    ⟨(some 33), .call ⟨.value (.func 12), #[(.tmp 32)], #[23]⟩, none⟩,
    ⟨(some 34), .move (.tmp 2), none⟩,
    ⟨(some 35), .call ⟨.value (.func 10), #[(.tmp 31), (.tmp 33), (.tmp 34)], #[29, 31, 3]⟩, none⟩,
    ⟨(some 29), .move (.tmp 35), none⟩,
    ⟨(some 36), .extract (.tmp 29) 0, none⟩,
    ⟨(some 37), .extract (.tmp 29) 1, none⟩,
    ⟨(some 8), .assign (.tmp 36), none⟩,
    ⟨(some 9), .assign (.tmp 37), none⟩] [0, 1, 2, 8, 9])
  (.seq (.reg [⟨(some 38), .move (.tmp 0), none⟩,
    ⟨(some 39), .call ⟨.value (.func 11), #[(.tmp 38)], #[22]⟩, none⟩,
    ⟨(some 10), .assign (.tmp 39), none⟩] [0, 1, 2, 8, 9, 10])
  (.seq (.reg [⟨(some 40), .move (.tmp 1), none⟩,
    ⟨(some 41), .call ⟨.value (.func 12), #[(.tmp 40)], #[23]⟩, none⟩,
    ⟨(some 11), .assign (.tmp 41), none⟩] [0, 1, 2, 8, 9, 10, 11])
  (.seq (.reg [⟨(some 43), .move (.tmp 10), none⟩,
    ⟨(some 44), .move (.tmp 11), none⟩,
    ⟨(some 45), .move (.tmp 2), none⟩,
    ⟨(some 46), .call ⟨.value (.func 13), #[(.tmp 43), (.tmp 44), (.tmp 45)], #[29, 31, 3]⟩, none⟩,
    ⟨(some 42), .move (.tmp 46), none⟩,
    ⟨(some 47), .extract (.tmp 42) 0, none⟩,
    ⟨(some 48), .extract (.tmp 42) 1, none⟩,
    ⟨(some 12), .assign (.tmp 47), none⟩,
    ⟨(some 13), .assign (.tmp 48), none⟩] [0, 1, 2, 8, 9, 10, 11, 12, 13])
  (.seq (.seq (.reg [⟨(some 49), .move (.tmp 12), none⟩,
    ⟨(some 50), .move (.tmp 8), none⟩,
    ⟨(some 51), .call ⟨.value (.func 14), #[(.tmp 49), (.tmp 50)], #[26, 26]⟩, none⟩,
    ⟨(some 52), .unOp .not 4 (.tmp 51), none⟩,
    ⟨(some 53), .move (.tmp 52), none⟩,
    ⟨(some 54), .move (.tmp 13), (some (some 53, false))⟩,
    ⟨(some 55), .move (.tmp 9), (some (some 53, false))⟩,
    ⟨(some 56), .binOp .neq 4 (.tmp 54) (.tmp 55) 4, (some (some 53, false))⟩,
    ⟨(some 57), .pick (.tmp 53) (.const (.bool true)) (.tmp 56), none⟩] [0, 1, 2, 8, 9, 10, 11, 12, 13, 57])
  (.cond (.tmp 57) (.seq (.reg [⟨(some 6), .assign (.const (.bool false)), none⟩] [6])
  .ret)
  .skip))
  (.seq (.seq (.reg [⟨(some 58), .move (.tmp 10), none⟩,
    ⟨(some 59), .move (.tmp 0), none⟩,
    ⟨(some 60), .call ⟨.value (.func 11), #[(.tmp 59)], #[22]⟩, none⟩,
    ⟨(some 61), .call ⟨.value (.func 15), #[(.tmp 58), (.tmp 60)], #[29, 29]⟩, none⟩,
    ⟨(some 62), .unOp .not 4 (.tmp 61), none⟩] [0, 1, 2, 8, 9, 10, 11, 12, 13, 62])
  (.cond (.tmp 62) (.seq (.reg [⟨(some 6), .assign (.const (.bool false)), none⟩] [6])
  .ret)
  .skip))
  (.seq (.seq (.reg [⟨(some 63), .move (.tmp 11), none⟩,
    ⟨(some 64), .move (.tmp 1), none⟩,
    ⟨(some 65), .call ⟨.value (.func 12), #[(.tmp 64)], #[23]⟩, none⟩,
    ⟨(some 66), .call ⟨.value (.func 16), #[(.tmp 63), (.tmp 65)], #[31, 31]⟩, none⟩,
    ⟨(some 67), .unOp .not 4 (.tmp 66), none⟩] [0, 1, 2, 8, 9, 10, 11, 12, 13, 67])
  (.cond (.tmp 67) (.seq (.reg [⟨(some 6), .assign (.const (.bool false)), none⟩] [6])
  .ret)
  .skip))
  (.seq (.reg [⟨(some 14), .assign (.const (.int .i64 1)), none⟩] [0, 1, 2, 8, 9, 10, 11, 12, 13, 14])
  (.seq (.reg [⟨(some 68), .move (.tmp 10), none⟩,
    ⟨(some 69), .move (.tmp 14), none⟩,
    ⟨(some 70), .call ⟨.value (.func 17), #[(.tmp 68), (.tmp 69)], #[29, 3]⟩, none⟩,
    ⟨(some 14), .assign (.tmp 70), none⟩] [0, 1, 2, 8, 9, 11, 12, 13, 14])
  (.seq (.reg [⟨(some 71), .move (.tmp 11), none⟩,
    ⟨(some 72), .move (.tmp 14), none⟩,
    ⟨(some 73), .call ⟨.value (.func 18), #[(.tmp 71), (.tmp 72)], #[31, 3]⟩, none⟩,
    ⟨(some 14), .assign (.tmp 73), none⟩] [0, 1, 2, 8, 9, 12, 13, 14])
  (.seq (.seq (.reg [⟨(some 74), .move (.tmp 14), none⟩,
    ⟨(some 75), .binOp .lss 3 (.tmp 74) (.const (.int .i64 0)) 3, none⟩,
    ⟨(some 76), .move (.tmp 75), none⟩,
    ⟨(some 77), .move (.tmp 12), (some (some 76, false))⟩,
    ⟨(some 78), .move (.tmp 8), (some (some 76, false))⟩,
    ⟨(some 79), .call ⟨.value (.func 14), #[(.tmp 77), (.tmp 78)], #[26, 26]⟩, (some (some 76, false))⟩,
    ⟨(some 80), .unOp .not 4 (.tmp 79), (some (some 76, false))⟩,
    ⟨(some 81), .pick (.tmp 76) (.const (.bool true)) (.tmp 80), none⟩,
    ⟨(some 82), .move (.tmp 81), none⟩,
    ⟨(some 83), .move (.tmp 13), (some (some 82, false))⟩,
    ⟨(some 84), .move (.tmp 9), (some (some 82, false))⟩,
    ⟨(some 85), .binOp .neq 4 (.tmp 83) (.tmp 84) 4, (some (some 82, false))⟩,
    ⟨(some 86), .pick (.tmp 82) (.const (.bool true)) (.tmp 85), none⟩] [0, 1, 2, 8, 9, 12, 86])
  (.cond (.tmp 86) (.seq (.reg [⟨(some 6), .assign (.const (.bool false)), none⟩] [6])
  .ret)
  .skip))
  (.seq (.reg [⟨(some 15), .assign (.const (.int .i64 1)), none⟩] [0, 1, 2, 8, 9, 12, 15])
  (.seq (.reg [⟨(some 87), .move (.tmp 12), none⟩,
    ⟨(some 88), .move (.tmp 15), none⟩,
    ⟨(some 89), .call ⟨.value (.func 19), #[(.tmp 87), (.tmp 88)], #[26, 3]⟩, none⟩,
    ⟨(some 15), .assign (.tmp 89), none⟩] [0, 1, 2, 8, 9, 12, 15])
  (.seq (.reg [⟨(some 16), .assign (.const (.int .i64 1)), none⟩] [0, 1, 2, 8, 9, 12, 15, 16])
  (.seq (.reg [⟨(some 90), .move (.tmp 12), none⟩,
    ⟨(some 91), .move (.tmp 16), none⟩,
    ⟨(some 92), .call ⟨.value (.func 20), #[(.tmp 90), (.tmp 91)], #[26, 3]⟩, none⟩,
    ⟨(some 16), .assign (.tmp 92), none⟩] [0, 1, 2, 8, 9, 12, 15, 16])
  (.seq (.seq (.reg [⟨(some 93), .move (.tmp 16), none⟩,
    ⟨(some 94), .binOp .lss 3 (.tmp 93) (.const (.int .i64 0)) 3, none⟩] [0, 1, 2, 8, 9, 12, 15, 16, 94])
  (.cond (.tmp 94) (.seq (.reg [⟨(some 6), .assign (.const (.bool false)), none⟩] [6])
  .ret)
  .skip))
  (.seq (.seq (.reg [⟨(some 95), .move (.tmp 16), none⟩,
    ⟨(some 96), .move (.tmp 15), none⟩,
    ⟨(some 97), .binOp .neq 3 (.tmp 95) (.tmp 96) 3, none⟩] [0, 1, 2, 8, 9, 12, 15, 97])
  (.cond (.tmp 97) (.seq (.reg [⟨(some 6), .assign (.const (.bool false)), none⟩] [6])
  .ret)
  .skip))
  (.seq (.reg [⟨(some 99), .move (.tmp 0), none⟩,
    ⟨(some 100), .call ⟨.value (.func 11), #[(.tmp 99)], #[22]⟩, none⟩,
    ⟨(some 101), .move (.tmp 1), none⟩,
    ⟨(some 102), .call ⟨.value (.func 12), #[(.tmp 101)], #[23]⟩, none⟩,
    ⟨(some 103), .move (.tmp 2), none⟩,
    ⟨(some 104), .call ⟨.value (.func 13), #[(.tmp 100), (.tmp 102), (.tmp 103)], #[29, 31, 3]⟩, none⟩,
    ⟨(some 98), .move (.tmp 104), none⟩,
    ⟨(some 105), .extract (.tmp 98) 0, none⟩,
    ⟨(some 106), .extract (.tmp 98) 1, none⟩,
    ⟨(some 17), .assign (.tmp 105), none⟩,
    ⟨(some 18), .assign (.tmp 106), none⟩] [8, 9, 12, 15, 17, 18])
  (.seq (.seq (.reg [⟨(some 107), .move (.tmp 17), none⟩,
    ⟨(some 108), .move (.tmp 8), none⟩,
    ⟨(some 109), .call ⟨.value (.func 14), #[(.tmp 107), (.tmp 108)], #[26, 26]⟩, none⟩,
    ⟨(some 110), .unOp .not 4 (.tmp 109), none⟩,
    ⟨(some 111), .move (.tmp 110), none⟩,
    ⟨(some 112), .move (.tmp 18), (some (some 111, false))⟩,
    ⟨(some 113), .move (.tmp 9), (some (some 111, false))⟩,
    ⟨(some 114), .binOp .neq 4 (.tmp 112) (.tmp 113) 4, (some (some 111, false))⟩,
    ⟨(some 115), .pick (.tmp 111) (.const (.bool true)) (.tmp 114), none⟩] [12, 15, 115])
  (.cond (.tmp 115) (.seq (.reg [⟨(some 6), .assign (.const (.bool false)), none⟩] [6])
  .ret)
  .skip))
  (.seq (.reg [⟨(some 16), .assign (.const (.int .i64 1)), none⟩] [12, 15, 16])
  (.seq (.reg [⟨(some 116), .move (.tmp 12), none⟩,
    ⟨(some 117), .move (.tmp 16), none⟩,
    ⟨(some 118), .call ⟨.value (.func 20), #[(.tmp 116), (.tmp 117)], #[26, 3]⟩, none⟩,
    ⟨(some 16), .assign (.tmp 118), none⟩] [15, 16])
  (.seq (.seq (.reg [⟨(some 119), .move (.tmp 16), none⟩,
    ⟨(some 120), .binOp .lss 3 (.tmp 119) (.const (.int .i64 0)) 3, none⟩] [15, 16, 120])
  (.cond (.tmp 120) (.seq (.reg [⟨(some 6), .assign (.const (.bool false)), none⟩] [6])
  .ret)
  .skip))
  (.seq (.seq (.reg [⟨(some 121), .move (.tmp 16), none⟩,
    ⟨(some 122), .move (.tmp 15), none⟩,
    ⟨(some 123), .binOp .neq 3 (.tmp 121) (.tmp 122) 3, none⟩] [123])
  (.cond (.tmp 123) (.seq (.reg [⟨(some 6), .assign (.const (.bool false)), none⟩] [6])
  .ret)
  .skip))
  (.seq (.reg [⟨(some 6), .assign (.const (.bool true)), none⟩] [6])
  .ret))))))))))))))))))))))))))))))
theorem laws_FnExactCoversVia_k : fnOk Try.prog (fun _ => false) 3 = some (laws_FnExactCoversVia_c.strip, 124, [.tmp 6]) := by kernel_rfl
/-- loop.example/g01062/laws.FnExactTrueCovers: number 4, params [0, 1, 2] -/
def laws_FnExactTrueCovers_c : ACode := (.seq (.reg [⟨(some 6), .assign (.const (.bool false)), none⟩] [0, 1, 2])
  (.seq (.reg [⟨(some 7), .assign (.const (.int .i64 1048576)), none⟩] [0, 1, 2, 7])
  (.seq (.reg [⟨(some 20), .move (.tmp 0), none⟩,
    ⟨(some 21), .move (.tmp 7), none⟩,
    ⟨(some 22), .call ⟨.value (.func 21), #[(.tmp 20), (.tmp 21)], #[40, 3]⟩, none⟩,
    ⟨(some 7), .assign (.tmp 22), none⟩] [0, 1, 2, 7])
  (.seq (.seq (.reg [⟨(some 23), .move (.tmp 7), none⟩,
    ⟨(some 24), .binOp .lss 3 (.tmp 23) (.const (.int .i64 0)) 3, none⟩] [0, 1, 2, 7, 24])
  (.cond (.tmp 24) (.seq (.reg [⟨(some 6), .assign (.const (.bool true)), none⟩] [6])
  .ret)
  .skip))
  (.seq (.reg [⟨(some 25), .move (.tmp 1), none⟩,
    ⟨(some 26), .move (.tmp 7), none⟩,
    ⟨(some 27), .call ⟨.value (.func 8), #[(.tmp 25), (.tmp 26)], #[22, 3]⟩, none⟩,
    ⟨(some 7), .assign (.tmp 27), none⟩] [0, 1, 2, 7])
  (.seq (.seq (.reg [⟨(some 28), .move (.tmp 7), none⟩,
    ⟨(some 29), .binOp .lss 3 (.tmp 28) (.const (.int .i64 0)) 3, none⟩] [0, 1, 2, 7, 29])
  (.cond (.tmp 29) (.seq (.reg [⟨(some 6), .assign (.const (.bool true)), none⟩] [6])
  .ret)
  .skip))
  (.seq (.reg [⟨(some 30), .move (.tmp 2), none⟩,
    ⟨(some 31), .move (.tmp 7), none⟩,
    ⟨(some 32), .call ⟨.value (.func 9), #[(.tmp 30), (.tmp 31)], #[23, 3]⟩, none⟩,
    ⟨(some 7), .assign (.tmp 32), none⟩] [0, 1, 2, 7])
  (.seq (.seq (.reg [⟨(some 33), .move (.tmp 7), none⟩,
    ⟨(some 34), .binOp .lss 3 (.tmp 33) (.const (.int .i64 0)) 3, none⟩] [0, 1, 2, 34])
  (.cond (.tmp 34) (.seq (.reg [⟨(some 6), .assign (.const (.bool true)), none⟩] [6])
  .ret)
  .skip))
  (.seq (.reg [⟨(some 36), .move (.tmp 0), none⟩,
    ⟨(some 37), .call ⟨.value (.func 23), #[(.tmp 36)], #[40]⟩, none⟩,
    ⟨(some 38), .move (.tmp 1), none⟩,
    ⟨(some 39), .call ⟨.value (.func 11), #[(.tmp 38)], #[22]⟩, none⟩,
    ⟨(some 40), .move (.tmp 2), none⟩,
    ⟨(some 41), .call ⟨.value (.func 12), #[(.tmp 40)], #[23]⟩, none⟩,
    ⟨(some 42), .call ⟨.value (.func 22), #[(.tmp 37), (.tmp 39), (.tmp 41)], #[43, 29, 31]⟩, none⟩,
    ⟨(some 35), .move (.tmp 42), none⟩,
    ⟨(some 43), .extract (.tmp 35) 0, none⟩,
    ⟨(some 44), .extract (.tmp 35) 1, none⟩,
    ⟨(some 8), .assign (.tmp 43), none⟩,
    ⟨(some 9), .assign (.tmp 44), none⟩] [0, 1, 2, 8, 9])
  (.seq (.reg [⟨(some 45), .move (.tmp 0), none⟩,
    ⟨(some 46), .call ⟨.value (.func 23), #[(.tmp 45)], #[40]⟩, none⟩,
    ⟨(some 10), .assign (.tmp 46), none⟩] [0, 1, 2, 8, 9, 10])
  (.seq (.reg [⟨(some 47), .move (.tmp 1), none⟩,
    ⟨(some 48), .call ⟨.value (.func 11), #[(.tmp 47)], #[22]⟩, none⟩,
    ⟨(some 11), .assign (.tmp 48), none⟩] [0, 1, 2, 8, 9, 10, 11])
  (.seq (.reg [⟨(some 49), .move (.tmp 2), none⟩,
    ⟨(some 50), .call ⟨.value (.func 12), #[(.tmp 49)], #[23]⟩, none⟩,
    ⟨(some 12), .assign (.tmp 50), none⟩] [0, 1, 2, 8, 9, 10, 11, 12])
  (.seq (.reg [⟨(some 52), .move (.tmp 10), none⟩,
    ⟨(some 53), .move (.tmp 11), none⟩,
    ⟨(some 54), .move (.tmp 12), none⟩,
    ⟨(some 55), .call ⟨.value (.func 24), #[(.tmp 52), (.tmp 53), (.tmp 54)], #[43, 29, 31]⟩, none⟩,
    ⟨(some 51), .move (.tmp 55), none⟩,
    ⟨(some 56), .extract (.tmp 51) 0, none⟩,
    ⟨(some 57), .extract (.tmp 51) 1, none⟩,
    ⟨(some 13), .assign (.tmp 56), none⟩,
    ⟨(some 14), .assign (.tmp 57), none⟩] [0, 1, 2, 8, 9, 10, 11, 12, 13, 14])
  (.seq (.seq (.reg [⟨(some 58), .move (.tmp 13), none⟩,
    ⟨(some 59), .move (.tmp 8), none⟩,
    ⟨(some 60), .call ⟨.value (.func 14), #[(.tmp 58), (.tmp 59)], #[26, 26]⟩, none⟩,
    ⟨(some 61), .unOp .not 4 (.tmp 60), none⟩,
    ⟨(some 62), .move (.tmp 61), none⟩,
    ⟨(some 63), .move (.tmp 14), (some (some 62, false))⟩,
    ⟨(some 64), .move (.tmp 9), (some (some 62, false))⟩,
    ⟨(some 65), .binOp .neq 4 (.tmp 63) (.tmp 64) 4, (some (some 62, false))⟩,
    ⟨(some 66), .pick (.tmp 62) (.const (.bool true)) (.tmp 65), none⟩] [0, 1, 2, 8, 9, 10, 11, 12, 13, 14, 66])
  (.cond (.tmp 66) (.seq (.reg [⟨(some 6), .assign (.const (.bool false)), none⟩] [6])
  .ret)
  .skip))
  (.seq (.seq (.reg [⟨(some 67), .move (.tmp 10), none⟩,
    ⟨(some 68), .move (.tmp 0), none⟩,
    ⟨(some 69), .call ⟨.value (.func 23), #[(.tmp 68)], #[40]⟩, none⟩,
    ⟨(some 70), .call ⟨.value (.func 25), #[(.tmp 67), (.tmp 69)], #[43, 43]⟩, none⟩,
    ⟨(some 71), .unOp .not 4 (.tmp 70), none⟩] [0, 1, 2, 8, 9, 10, 11, 12, 13, 14, 71])
  (.cond (.tmp 71) (.seq (.reg [⟨(some 6), .assign (.const (.bool false)), none⟩] [6])
  .ret)
  .skip))
  (.seq (.seq (.reg [⟨(some 72), .move (.tmp 11), none⟩,
    ⟨(some 73), .move (.tmp 1), none⟩,
    ⟨(some 74), .call ⟨.value (.func 11), #[(.tmp 73)], #[22]⟩, none⟩,
    ⟨(some 75), .call ⟨.value (.func 15), #[(.tmp 72), (.tmp 74)], #[29, 29]⟩, none⟩,
    ⟨(some 76), .unOp .not 4 (.tmp 75), none⟩] [0, 1, 2, 8, 9, 10, 11, 12, 13, 14, 76])
  (.cond (.tmp 76) (.seq (.reg [⟨(some 6), .assign (.const (.bool false)), none⟩] [6])
  .ret)
  .skip))
  (.seq (.seq (.reg [⟨(some 77), .move (.tmp 12), none⟩,
    ⟨(some 78), .move (.tmp 2), none⟩,
    ⟨(some 79), .call ⟨.value (.func 12), #[(.tmp 78)], #[23]⟩, none⟩,
    ⟨(some 80), .call ⟨.value (.func 16), #[(.tmp 77), (.tmp 79)], #[31, 31]⟩, none⟩,
    ⟨(some 81), .unOp .not 4 (.tmp 80), none⟩] [0, 1, 2, 8, 9, 10, 11, 12, 13, 14, 81])
  (.cond (.tmp 81) (.seq (.reg [⟨(some 6), .assign (.const (.bool false)), none⟩] [6])
  .ret)
  .skip))
  (.seq (.reg [⟨(some 15), .assign (.const (.int .i64 1)), none⟩] [0, 1, 2, 8, 9, 10, 11, 12, 13, 14, 15])
  (.seq (.reg [⟨(some 82), .move (.tmp 10), none⟩,
    ⟨(some 83), .move (.tmp 15), none⟩,
    ⟨(some 84), .call ⟨.value (.func 26), #[(.tmp 82), (.tmp 83)], #[43, 3]⟩, none⟩,
    ⟨(some 15), .assign (.tmp 84), none⟩] [0, 1, 2, 8, 9, 11, 12, 13, 14, 15])
  (.seq (.reg [⟨(some 85), .move (.tmp 11), none⟩,
    ⟨(some 86), .move (.tmp 15), none⟩,
    ⟨(some 87), .call ⟨.value (.func 17), #[(.tmp 85), (.tmp 86)], #[29, 3]⟩, none⟩,
    ⟨(some 15), .assign (.tmp 87), none⟩] [0, 1, 2, 8, 9, 12, 13, 14, 15])
  (.seq (.reg [⟨(some 88), .move (.tmp 12), none⟩,
    ⟨(some 89), .move (.tmp 15), none⟩,
    ⟨(some 90), .call ⟨.value (.func 18), #[(.tmp 88), (.tmp 89)], #[31, 3]⟩, none⟩,
    ⟨(some 15), .assign (.tmp 90), none⟩] [0, 1, 2, 8, 9, 13, 14, 15])
  (.seq (.seq (.reg [⟨(some 91), .move (.tmp 15), none⟩,
    ⟨(some 92), .binOp .lss 3 (.tmp 91) (.const (.int .i64 0)) 3, none⟩,
    ⟨(some 93), .move (.tmp 92), none⟩,
    ⟨(some 94), .move (.tmp 13), (some (some 93, false))⟩,
    ⟨(some 95), .move (.tmp 8), (some (some 93, false))⟩,
    ⟨(some 96), .call ⟨.value (.func 14), #[(.tmp 94), (.tmp 95)], #[26, 26]⟩, (some (some 93, false))⟩,
    ⟨(some 97), .unOp .not 4 (.tmp 96), (some (some 93, false))⟩,
    ⟨(some 98), .pick (.tmp 93) (.const (.bool true)) (.tmp 97), none⟩,
    ⟨(some 99), .move (.tmp 98), none⟩,
    ⟨(some 100), .move (.tmp 14), (some (some 99, false))⟩,
    ⟨(some 101), .move (.tmp 9), (some (some 99, false))⟩,
    ⟨(some 102), .binOp .neq 4 (.tmp 100) (.tmp 101) 4, (some (some 99, false))⟩,
    ⟨(some 103), .pick (.tmp 99) (.const (.bool true)) (.tmp 102), none⟩] [0, 1, 2, 8, 9, 13, 103])
  (.cond (.tmp 103) (.seq (.reg [⟨(some 6), .assign (.const (.bool false)), none⟩] [6])
  .ret)
  .skip))
  (.seq (.reg [⟨(some 16), .assign (.const (.int .i64 1)), none⟩] [0, 1, 2, 8, 9, 13, 16])
  (.seq (.reg [⟨(some 104), .move (.tmp 13), none⟩,
    ⟨(some 105), .move (.tmp 16), none⟩,
    ⟨(some 106), .call ⟨.value (.func 19), #[(.tmp 104), (.tmp 105)], #[26, 3]⟩, none⟩,
    ⟨(some 16), .assign (.tmp 106), none⟩] [0, 1, 2, 8, 9, 13, 16])
  (.seq (.reg [⟨(some 17), .assign (.const (.int .i64 1)), none⟩] [0, 1, 2, 8, 9, 13, 16, 17])
  (.seq (.reg [⟨(some 107), .move (.tmp 13), none⟩,
    ⟨(some 108), .move (.tmp 17), none⟩,
    ⟨(some 109), .call ⟨.value (.func 20), #[(.tmp 107), (.tmp 108)], #[26, 3]⟩, none⟩,
    ⟨(some 17), .assign (.tmp 109), none⟩] [0, 1, 2, 8, 9, 13, 16, 17])
  (.seq (.seq (.reg [⟨(some 110), .move (.tmp 17), none⟩,
    ⟨(some 111), .binOp .lss 3 (.tmp 110) (.const (.int .i64 0)) 3, none⟩] [0, 1, 2, 8, 9, 13, 16, 17, 111])
  (.cond (.tmp 111) (.seq (.reg [⟨(some 6), .assign (.const (.bool false)), none⟩] [6])
  .ret)
  .skip))
  (.seq (.seq (.reg [⟨(some 112), .move (.tmp 17), none⟩,
    ⟨(some 113), .move (.tmp 16), none⟩,
    ⟨(some 114), .binOp .neq 3 (.tmp 112) (.tmp 113) 3, none⟩] [0, 1, 2, 8, 9, 13, 16, 114])
  (.cond (.tmp 114) (.seq (.reg [⟨(some 6), .assign (.const (.bool false)), none⟩] [6])
  .ret)
  .skip))
  (.seq (.reg [⟨(some 116), .move (.tmp 0), none⟩,
    ⟨(some 117), .call ⟨.value (.func 23), #[(.tmp 116)], #[40]⟩, none⟩,
    ⟨(some 118), .move (.tmp 1), none⟩,
    ⟨(some 119), .call ⟨.value (.func 11), #[(.tmp 118)], #[22]⟩, none⟩,
    ⟨(some 120), .move (.tmp 2), none⟩,
    ⟨(some 121), .call ⟨.value (.func 12), #[(.tmp 120)], #[23]⟩, none⟩,
    ⟨(some 122), .call ⟨.value (.func 24), #[(.tmp 117), (.tmp 119), (.tmp 121)], #[43, 29, 31]⟩, none⟩,
    ⟨(some 115), .move (.tmp 122), none⟩,
    ⟨(some 123), .extract (.tmp 115) 0, none⟩,
    ⟨(some 124), .extract (.tmp 115) 1, none⟩,
    ⟨(some 18), .assign (.tmp 123), none⟩,
    ⟨(some 19), .assign (.tmp 124), none⟩] [8, 9, 13, 16, 18, 19])
  (.seq (.seq (.reg [⟨(some 125), .move (.tmp 18), none⟩,
    ⟨(some 126), .move (.tmp 8), none⟩,
    ⟨(some 127), .call ⟨.value (.func 14), #[(.tmp 125), (.tmp 126)], #[26, 26]⟩, none⟩,
    ⟨(some 128), .unOp .not 4 (.tmp 127), none⟩,
    ⟨(some 129), .move (.tmp 128), none⟩,
    ⟨(some 130), .move (.tmp 19), (some (some 129, false))⟩,
    ⟨(some 131), .move (.tmp 9), (some (some 129, false))⟩,
    ⟨(some 132), .binOp .neq 4 (.tmp 130) (.tmp 131) 4, (some (some 129, false))⟩,
    ⟨(some 133), .pick (.tmp 129) (.const (.bool true)) (.tmp 132), none⟩] [13, 16, 133])
  (.cond (.tmp 133) (.seq (.reg [⟨(some 6), .assign (.const (.bool false)), none⟩] [6])
  .ret)
  .skip))
  (.seq (.reg [⟨(some 17), .assign (.const (.int .i64 1)), none⟩] [13, 16, 17])
  (.seq (.reg [⟨(some 134), .move (.tmp 13), none⟩,
    ⟨(some 135), .move (.tmp 17), none⟩,
    ⟨(some 136), .call ⟨.value (.func 20), #[(.tmp 134), (.tmp 135)], #[26, 3]⟩, none⟩,
    ⟨(some 17), .assign (.tmp 136), none⟩] [16, 17])
  (.seq (.seq (.reg [⟨(some 137), .move (.tmp 17), none⟩,
    ⟨(some 138), .binOp .lss 3 (.tmp 137) (.const (.int .i64 0)) 3, none⟩] [16, 17, 138])
  (.cond (.tmp 138) (.seq (.reg [⟨(some 6), .assign (.const (.bool false)), none⟩] [6])
  .ret)
  .skip))
  (.seq (.seq (.reg [⟨(some 139), .move (.tmp 17), none⟩,
    ⟨(some 140), .move (.tmp 16), none⟩,
    ⟨(some 141), .binOp .neq 3 (.tmp 139) (.tmp 140) 3, none⟩] [141])
  (.cond (.tmp 141) (.seq (.reg [⟨(some 6), .assign (.const (.bool false)), none⟩] [6])
  .ret)
  .skip))
  (.seq (.reg [⟨(some 6), .assign (.const (.bool true)), none⟩] [6])
  .ret)))))))))))))))))))))))))))))))))))
theorem laws_FnExactTrueCovers_k : fnOk Try.prog (fun _ => false) 4 = some (laws_FnExactTrueCovers_c.strip, 142, [.tmp 6]) := by kernel_rfl
/-- loop.example/g01062/laws.szMailS: number 8, params [0, 1] -/
def laws_szMailS_c : ACode := (.seq (.reg [⟨(some 4), .assign (.const (.int .i64 0)), none⟩] [0, 1])
  (.seq (.reg [⟨(some 5), .move (.tmp 1), none⟩,
    ⟨(some 6), .move (.tmp 0), none⟩,
    ⟨(some 7), .call ⟨.builtin .len, #[(.tmp 6)], #[22]⟩, none⟩,
    ⟨(some 8), .binOp .sub 3 (.tmp 5) (.tmp 7) 3, none⟩,
    ⟨(some 1), .assign (.tmp 8), none⟩] [1])
  (.seq (.seq (.reg [⟨(some 9), .move (.tmp 1), none⟩,
    ⟨(some 10), .binOp .lss 3 (.tmp 9) (.const (.int .i64 0)) 3, none⟩] [1, 10])
  (.cond (.tmp 10) (.seq (.reg [⟨(some 4), .assign (.const (.int .i64 (-1))), none⟩] [4])
  .ret)
  .skip))
  (.seq (.reg [⟨(some 11), .move (.tmp 1), none⟩,
    ⟨(some 4), .assign (.tmp 11), none⟩] [4])
  .ret))))
theorem laws_szMailS_k : fnOk Try.prog (fun _ => false) 8 = some (laws_szMailS_c.strip, 12, [.tmp 4]) := by kernel_rfl
/-- head: [0, 1, 2, 8, 9, 10, 12, 13] -/
def spec_CoversVia_l0 : ACode := (.seq (.seq (.reg [⟨(some 44), .move (.tmp 13), none⟩,
    ⟨(some 45), .move (.tmp 10), none⟩,
    ⟨(some 46), .call ⟨.builtin .len, #[(.tmp 45)], #[26]⟩, none⟩,
    ⟨(some 47), .binOp .lss 3 (.tmp 44) (.tmp 46) 3, none⟩] [0, 1, 2, 8, 9, 10, 12, 13, 47])
  (.cond (.tmp 47) .skip
  (.exit 2)))
  (.seq (.block 3 (.reg [⟨(some 50), .move (.tmp 12), none⟩,
    ⟨(some 51), .move (.tmp 50), none⟩,
    ⟨(some 52), .move (.tmp 0), (some (some 51, false))⟩,
    ⟨(some 53), .move (.tmp 10), (some (some 51, false))⟩,
    ⟨(some 54), .move (.tmp 13), (some (some 51, false))⟩,
    ⟨(some 55), .indexAddr 26 (.tmp 53) (.tmp 54), (some (some 51, false))⟩,
    ⟨(some 56), .load 3 (.tmp 55), (some (some 51, false))⟩,
    ⟨(some 57), .indexAddr 29 (.tmp 52) (.tmp 56), (some (some 51, false))⟩,
    ⟨(some 58), .fieldAddr 89 (.tmp 57) 2, (some (some 51, false))⟩,
    ⟨(some 59), .load 3 (.tmp 58), (some (some 51, false))⟩,
    ⟨(some 60), .move (.tmp 2), (some (some 51, false))⟩,
    ⟨(some 61), .binOp .eql 3 (.tmp 59) (.tmp 60) 3, (some (some 51, false))⟩,
    ⟨(some 62), .pick (.tmp 51) (.const (.bool true)) (.tmp 61), none⟩,
    ⟨(some 12), .assign (.tmp 62), none⟩] [0, 1, 2, 8, 9, 10, 12, 13]))
  (.reg [⟨(some 48), .move (.tmp 13), none⟩,
    ⟨(some 49), .binOp .add 3 (.tmp 48) (.const (.int .i64 1)) 3, none⟩,
    ⟨(some 13), .assign (.tmp 49), none⟩] [0, 1, 2, 8, 9, 10, 12, 13])))
/-- head: [0, 1, 2, 8, 9] -/
def spec_CoversVia_l1 : ACode := (.seq (.seq (.reg [⟨(some 29), .move (.tmp 9), none⟩,
    ⟨(some 30), .move (.tmp 1), none⟩,
    ⟨(some 31), .call ⟨.builtin .len, #[(.tmp 30)], #[31]⟩, none⟩,
    ⟨(some 32), .binOp .lss 3 (.tmp 29) (.tmp 31) 3, none⟩] [0, 1, 2, 8, 9, 32])
  (.cond (.tmp 32) .skip
  (.exit 0)))
  (.seq (.block 1 (.seq (.reg [⟨(some 36), .move (.tmp 0), none⟩,
    ⟨(some 37), .move (.tmp 1), none⟩,
    ⟨(some 38), .move (.tmp 9), none⟩,
    ⟨(some 39), .indexAddr 31 (.tmp 37) (.tmp 38), none⟩,
    ⟨(some 40), .load 51 (.tmp 39), none⟩,
    ⟨(some 41), .call ⟨.value (.func 70), #[(.tmp 36), (.tmp 40)], #[29, 51]⟩, none⟩,
    ⟨(some 35), .move (.tmp 41), none⟩,
    ⟨(some 42), .extract (.tmp 35) 0, none⟩,
    ⟨(some 43), .extract (.tmp 35) 1, none⟩,
    ⟨(some 10), .assign (.tmp 42), none⟩,
    ⟨(some 11), .assign (.tmp 43), none⟩] [0, 1, 2, 8, 9, 10])
  (.seq (.reg [⟨(some 12), .assign (.const (.bool false)), none⟩] [0, 1, 2, 8, 9, 10, 12])
  (.seq (.seq (.reg [⟨(some 13), .assign (.const (.int .i64 0)), none⟩] [0, 1, 2, 8, 9, 10, 12, 13])
  (.block 2 (.loop spec_CoversVia_l0)))
  (.seq (.reg [⟨(some 63), .move (.tmp 12), none⟩] [0, 1, 2, 8, 9, 63])
  (.cond (.tmp 63) (.reg [⟨(some 64), .move (.tmp 8), none⟩,
    ⟨(some 65), .move (.tmp 1), none⟩,
    ⟨(some 66), .move (.tmp 9), none⟩,
    ⟨(some 67), .indexAddr 31 (.tmp 65) (.tmp 66), none⟩,
    ⟨(some 68), .fieldAddr 51 (.tmp 67) 0, none⟩,
    ⟨(some 69), .load 3 (.tmp 68), none⟩,
    ⟨(some 70), .buildSlice 26 1 #[(0, (.tmp 69))], none⟩,
    ⟨(some 71), .call ⟨.builtin .append, #[(.tmp 64), (.tmp 70)], #[26, 26]⟩, none⟩,
    ⟨(some 8), .assign (.tmp 71), none⟩] [0, 1, 2, 8, 9])
  .skip))))))
  (.reg [⟨(some 33), .move (.tmp 9), none⟩,
    ⟨(some 34), .binOp .add 3 (.tmp 33) (.const (.int .i64 1)) 3, none⟩,
    ⟨(some 9), .assign (.tmp 34), none⟩] [0, 1, 2, 8, 9])))
/-- loop.example/g01062/spec.CoversVia: number 10, params [0, 1, 2] -/
def spec_CoversVia_c : ACode := (.seq (.reg [⟨(some 6), .assign (.const (.slice none 0 0)), none⟩,
    ⟨(some 7), .assign (.const (.bool false)), none⟩] [0, 1, 2])
  (.seq (.reg [⟨(some 14), .buildSlice 26 0 #[], none⟩,
    ⟨(some 8), .assign (.tmp 14), none⟩] [0, 1, 2, 8])
  (.seq (.seq (.reg [⟨(some 15), .move (.tmp 0), none⟩,
    ⟨(some 16), .call ⟨.value (.func 67), #[(.tmp 15)], #[29]⟩, none⟩,
    ⟨(some 17), .unOp .not 4 (.tmp 16), none⟩,
    ⟨(some 18), .move (.tmp 17), none⟩,
    ⟨(some 19), .move (.tmp 1), (some (some 18, false))⟩,
    ⟨(some 20), .call ⟨.value (.func 68), #[(.tmp 19)], #[31]⟩, (some (some 18, false))⟩,
    ⟨(some 21), .unOp .not 4 (.tmp 20), (some (some 18, false))⟩,
    ⟨(some 22), .pick (.tmp 18) (.const (.bool true)) (.tmp 21), none⟩,
    ⟨(some 23), .move (.tmp 22), none⟩,
    ⟨(some 24), .move (.tmp 2), (some (some 23, false))⟩,
    ⟨(some 25), .call ⟨.value (.func 69), #[(.tmp 24)], #[3]⟩, (some (some 23, false))⟩,
    ⟨(some 26), .unOp .not 4 (.tmp 25), (some (some 23, false))⟩,
    ⟨(some 27), .pick (.tmp 23) (.const (.bool true)) (.tmp 26), none⟩] [0, 1, 2, 8, 27])
  (.cond (.tmp 27) (.seq (.reg [⟨(some 28), .move (.tmp 8), none⟩,
    ⟨(some 6), .assign (.tmp 28), none⟩,
    ⟨(some 7), .assign (.const (.bool false)), none⟩] [6, 7])
  .ret)
  .skip))
  (.seq (.seq (.reg [⟨(some 9), .assign (.const (.int .i64 0)), none⟩] [0, 1, 2, 8, 9])
  (.block 0 (.loop spec_CoversVia_l1)))
  (.seq (.reg [⟨(some 72), .move (.tmp 8), none⟩,
    ⟨(some 6), .assign (.tmp 72), none⟩,
    ⟨(some 7), .assign (.const (.bool true)), none⟩] [6, 7])
  .ret)))))
theorem spec_CoversVia_k : fnOk Try.prog (fun _ => false) 10 = some (spec_CoversVia_c.strip, 73, [.tmp 6, .tmp 7]) := by kernel_rfl
/-- head: [0, 3, 4] -/
def laws_toMailS_l0 : ACode := (.seq (.seq (.reg [⟨(some 8), .move (.tmp 4), none⟩,
    ⟨(some 9), .move (.tmp 0), none⟩,
    ⟨(some 10), .call ⟨.builtin .len, #[(.tmp 9)], #[22]⟩, none⟩,
    ⟨(some 11), .binOp .lss 3 (.tmp 8) (.tmp 10) 3, none⟩] [0, 3, 4, 11])
  (.cond (.tmp 11) .skip
  (.exit 0)))
  (.seq (.block 1 (.reg [⟨(some 14), .move (.tmp 3), none⟩,
    ⟨(some 15), .move (.tmp 4), none⟩,
    ⟨(some 16), .move (.tmp 0), none⟩,
    ⟨(some 17), .move (.tmp 4), none⟩,
    ⟨(some 18), .indexAddr 22 (.tmp 16) (.tmp 17), none⟩,
    ⟨(some 19), .load 91 (.tmp 18), none⟩,
    ⟨(some 20), .call ⟨.value (.func 71), #[(.tmp 19)], #[91]⟩, none⟩,
    ⟨(some 21), .indexAddr 29 (.tmp 14) (.tmp 15), none⟩,
    ⟨none, .store 89 (.tmp 21) (.tmp 20), none⟩] [0, 3, 4]))
  (.reg [⟨(some 12), .move (.tmp 4), none⟩,
    ⟨(some 13), .binOp .add 3 (.tmp 12) (.const (.int .i64 1)) 3, none⟩,
    ⟨(some 4), .assign (.tmp 13), none⟩] [0, 3, 4])))
/-- loop.example/g01062/laws.toMailS: number 11, params [0] -/
def laws_toMailS_c : ACode := (.seq (.reg [⟨(some 2), .assign (.const (.slice none 0 0)), none⟩] [0])
  (.seq (.reg [⟨(some 5), .move (.tmp 0), none⟩,
    ⟨(some 6), .call ⟨.builtin .len, #[(.tmp 5)], #[22]⟩, none⟩,
    ⟨(some 7), .makeSlice 29 (.tmp 6) (.tmp 6), none⟩,
    ⟨(some 3), .assign (.tmp 7), none⟩] [0, 3])
  (.seq (.seq (.reg [⟨(some 4), .assign (.const (.int .i64 0)), none⟩] [0, 3, 4])
  (.block 0 (.loop laws_toMailS_l0)))
  (.seq (.reg [⟨(some 22), .move (.tmp 3), none⟩,
    ⟨(some 2), .assign (.tmp 22), none⟩] [2])
  .ret))))
theorem laws_toMailS_k : fnOk Try.prog (fun _ => false) 11 = some (laws_toMailS_c.strip, 23, [.tmp 2]) := by kernel_rfl
/-- head: [3, 5, 8, 26, 27, 28] -/
def impl_CoversVia_l0 : ACode := (.seq (.reg [⟨(some 29), .binOp .lss 3 (.tmp 28) (.tmp 27) 3, none⟩] [3, 5, 8, 26, 27, 28, 29])
  (.seq (.cond (.tmp 29) .skip
  (.exit 0))
  (.seq (.block 1 (.seq (.reg [⟨(some 30), .indexAddr 31 (.tmp 26) (.tmp 28), none⟩,
    ⟨(some 31), .load 51 (.tmp 30), none⟩,
    ⟨(some 10), .alloc 51, none⟩,
    ⟨none, .store 51 (.tmp 10) (.tmp 31), none⟩] [3, 5, 8, 10, 26, 27, 28])
  (.seq (.reg [⟨(some 33), .load 29 (.tmp 3), none⟩,
    ⟨(some 34), .load 51 (.tmp 10), none⟩,
    ⟨(some 35), .call ⟨.value (.func 76), #[(.tmp 33), (.tmp 34)], #[29, 51]⟩, none⟩,
    ⟨(some 32), .move (.tmp 35), none⟩,
    ⟨(some 36), .extract (.tmp 32) 0, none⟩,
    ⟨(some 37), .extract (.tmp 32) 1, none⟩,
    ⟨(some 11), .assign (.tmp 36), none⟩,
    ⟨(some 12), .assign (.tmp 37), none⟩] [3, 5, 8, 10, 11, 26, 27, 28])
  (.seq (.reg [⟨(some 38), .move (.tmp 11), none⟩,
    ⟨(some 39), .makeFunc (.func 78) #[] #[(.tmp 3), (.tmp 5)], none⟩,
    ⟨(some 40), .call ⟨.value (.func 77), #[(.tmp 38), (.tmp 39)], #[26, 87]⟩, none⟩] [3, 5, 8, 10, 26, 27, 28, 40])
  (.cond (.tmp 40) (.reg [⟨(some 41), .move (.tmp 8), none⟩,
    ⟨(some 42), .fieldAddr 51 (.tmp 10) 0, none⟩,
    ⟨(some 43), .load 3 (.tmp 42), none⟩,
    ⟨(some 44), .buildSlice 26 1 #[(0, (.tmp 43))], none⟩,
    ⟨(some 45), .call ⟨.builtin .append, #[(.tmp 41), (.tmp 44)], #[26, 26]⟩, none⟩,
    ⟨(some 8), .assign (.tmp 45), none⟩] [3, 5, 8, 26, 27, 28])
  .skip)))))
  (.reg [⟨(some 46), .binOp .add 3 (.tmp 28) (.const (.int .i64 1)) 3, none⟩,
    ⟨(some 28), .move (.tmp 46), none⟩] [3, 5, 8, 26, 27, 28]))))
/-- loop.example/g01062/impl.CoversVia: number 13, params [0, 1, 2] -/
def impl_CoversVia_c : ACode := (.seq (.reg [⟨(some 3), .box 29 (.tmp 0), none⟩,
    ⟨(some 5), .box 3 (.tmp 2), none⟩,
    ⟨(some 6), .assign (.const (.slice none 0 0)), none⟩,
    ⟨(some 7), .assign (.const (.bool false)), none⟩] [1, 3, 5])
  (.seq (.seq (.reg [⟨(some 13), .load 29 (.tmp 3), none⟩,
    ⟨(some 14), .call ⟨.value (.func 73), #[(.tmp 13)], #[29]⟩, none⟩,
    ⟨(some 15), .unOp .not 4 (.tmp 14), none⟩,
    ⟨(some 16), .move (.tmp 15), none⟩,
    ⟨(some 17), .move (.tmp 1), (some (some 16, false))⟩,
    ⟨(some 18), .call ⟨.value (.func 74), #[(.tmp 17)], #[31]⟩, (some (some 16, false))⟩,
    ⟨(some 19), .unOp .not 4 (.tmp 18), (some (some 16, false))⟩,
    ⟨(some 20), .pick (.tmp 16) (.const (.bool true)) (.tmp 19), none⟩,
    ⟨(some 21), .move (.tmp 20), none⟩,
    ⟨(some 22), .load 3 (.tmp 5), (some (some 21, false))⟩,
    ⟨(some 23), .call ⟨.value (.func 75), #[(.tmp 22)], #[3]⟩, (some (some 21, false))⟩,
    ⟨(some 24), .unOp .not 4 (.tmp 23), (some (some 21, false))⟩,
    ⟨(some 25), .pick (.tmp 21) (.const (.bool true)) (.tmp 24), none⟩] [1, 3, 5, 25])
  (.cond (.tmp 25) (.seq (.reg [⟨(some 6), .assign (.const (.slice none 0 0)), none⟩,
    ⟨(some 7), .assign (.const (.bool false)), none⟩] [6, 7])
  .ret)
  .skip))
  (.seq (.reg [⟨(some 8), .assign (.const (.slice none 0 0)), none⟩] [1, 3, 5, 8])
  (.seq (.seq (.reg [⟨(some 26), .move (.tmp 1), none⟩,
    ⟨(some 27), .call ⟨.builtin .len, #[(.tmp 26)], #[31]⟩, none⟩,
    ⟨(some 28), .move (.const (.int .i64 0)), none⟩] [3, 5, 8, 26, 27, 28])
  (.block 0 (.loop impl_CoversVia_l0)))
  (.seq (.reg [⟨(some 47), .move (.tmp 8), none⟩,
    ⟨(some 6), .assign (.tmp 47), none⟩,
    ⟨(some 7), .assign (.const (.bool true)), none⟩] [6, 7])
  .ret)))))
theorem impl_CoversVia_k : fnOk Try.prog (fun _ => false) 13 = some (impl_CoversVia_c.strip, 48, [.tmp 6, .tmp 7]) := by kernel_rfl
/-- head: [0, 1, 5] -/
def laws_eqMailS_l0 : ACode := (.seq (.seq (.reg [⟨(some 11), .move (.tmp 5), none⟩,
    ⟨(some 12), .move (.tmp 0), none⟩,
    ⟨(some 13), .call ⟨.builtin .len, #[(.tmp 12)], #[29]⟩, none⟩,
    ⟨(some 14), .binOp .lss 3 (.tmp 11) (.tmp 13) 3, none⟩] [0, 1, 5, 14])
  (.cond (.tmp 14) .skip
  (.exit 0)))
  (.seq (.block 1 (.seq (.regQ [⟨(some 17), .move (.tmp 0), none⟩,
    ⟨(some 18), .move (.tmp 5), none⟩,
    ⟨(some 19), .indexAddr 29 (.tmp 17) (.tmp 18), none⟩,
    ⟨(some 20), .load 89 (.tmp 19), none⟩,
    ⟨(some 21), .move (.tmp 1), none⟩,
    ⟨(some 22), .move (.tmp 5), none⟩,
    ⟨(some 23), .indexAddr 29 (.tmp 21) (.tmp 22), none⟩,
    ⟨(some 24), .load 89 (.tmp 23), none⟩,
    ⟨(some 25), .call ⟨.value (.func 79), #[(.tmp 20), (.tmp 24)], #[89, 89]⟩, none⟩,
    ⟨(some 26), .unOp .not 4 (.tmp 25), none⟩] [0, 1, 5, 26])
  (.cond (.tmp 26) (.seq (.reg [⟨(some 4), .assign (.const (.bool false)), none⟩] [4])
  .ret)
  .skip)))
  (.reg [⟨(some 15), .move (.tmp 5), none⟩,
    ⟨(some 16), .binOp .add 3 (.tmp 15) (.const (.int .i64 1)) 3, none⟩,
    ⟨(some 5), .assign (.tmp 16), none⟩] [0, 1, 5])))
/-- loop.example/g01062/laws.eqMailS: number 15, params [0, 1] -/
def laws_eqMailS_c : ACode := (.seq (.reg [⟨(some 4), .assign (.const (.bool false)), none⟩] [0, 1])
  (.seq (.seq (.reg [⟨(some 6), .move (.tmp 0), none⟩,
    ⟨(some 7), .call ⟨.builtin .len, #[(.tmp 6)], #[29]⟩, none⟩,
    ⟨(some 8), .move (.tmp 1), none⟩,
    ⟨(some 9), .call ⟨.builtin .len, #[(.tmp 8)], #[29]⟩, none⟩,
    ⟨(some 10), .binOp .neq 3 (.tmp 7) (.tmp 9) 3, none⟩] [0, 1, 10])
  (.cond (.tmp 10) (.seq (.reg [⟨(some 4), .assign (.const (.bool false)), none⟩] [4])
  .ret)
  .skip))
  (.seq (.seq (.reg [⟨(some 5), .assign (.const (.int .i64 0)), none⟩] [0, 1, 5])
  (.block 0 (.loop laws_eqMailS_l0)))
  (.seq (.reg [⟨(some 4), .assign (.const (.bool true)), none⟩] [4])
  .ret))))
theorem laws_eqMailS_k : fnOk Try.prog (fun _ => false) 15 = some (laws_eqMailS_c.strip, 27, [.tmp 4]) := by kernel_rfl
/-- head: [0, 1, 5] -/
def laws_markMailS_l0 : ACode := (.seq (.seq (.reg [⟨(some 6), .move (.tmp 5), none⟩,
    ⟨(some 7), .move (.tmp 0), none⟩,
    ⟨(some 8), .call ⟨.builtin .len, #[(.tmp 7)], #[29]⟩, none⟩,
    ⟨(some 9), .binOp .lss 3 (.tmp 6) (.tmp 8) 3, none⟩] [0, 1, 5, 9])
  (.cond (.tmp 9) .skip
  (.exit 0)))
  (.seq (.block 1 (.seq (.reg [⟨(some 12), .move (.tmp 0), none⟩,
    ⟨(some 13), .move (.tmp 5), none⟩,
    ⟨(some 14), .move (.tmp 1), none⟩,
    ⟨(some 15), .indexAddr 29 (.tmp 12) (.tmp 13), none⟩,
    ⟨(some 16), .fieldAddr 89 (.tmp 15) 0, none⟩,
    ⟨none, .store 3 (.tmp 16) (.tmp 14), none⟩] [0, 1, 5])
  (.seq (.reg [⟨(some 17), .move (.tmp 1), none⟩,
    ⟨(some 18), .binOp .add 3 (.tmp 17) (.const (.int .i64 1)) 3, none⟩,
    ⟨(some 1), .assign (.tmp 18), none⟩] [0, 1, 5])
  (.seq (.reg [⟨(some 19), .move (.tmp 0), none⟩,
    ⟨(some 20), .move (.tmp 5), none⟩,
    ⟨(some 21), .move (.tmp 1), none⟩,
    ⟨(some 22), .indexAddr 29 (.tmp 19) (.tmp 20), none⟩,
    ⟨(some 23), .fieldAddr 89 (.tmp 22) 1, none⟩,
    ⟨none, .store 3 (.tmp 23) (.tmp 21), none⟩] [0, 1, 5])
  (.seq (.reg [⟨(some 24), .move (.tmp 1), none⟩,
    ⟨(some 25), .binOp .add 3 (.tmp 24) (.const (.int .i64 1)) 3, none⟩,
    ⟨(some 1), .assign (.tmp 25), none⟩] [0, 1, 5])
  (.seq (.reg [⟨(some 26), .move (.tmp 0), none⟩,
    ⟨(some 27), .move (.tmp 5), none⟩,
    ⟨(some 28), .move (.tmp 1), none⟩,
    ⟨(some 29), .indexAddr 29 (.tmp 26) (.tmp 27), none⟩,
    ⟨(some 30), .fieldAddr 89 (.tmp 29) 2, none⟩,
    ⟨none, .store 3 (.tmp 30) (.tmp 28), none⟩] [0, 1, 5])
  (.seq (.reg [⟨(some 31), .move (.tmp 1), none⟩,
    ⟨(some 32), .binOp .add 3 (.tmp 31) (.const (.int .i64 1)) 3, none⟩,
    ⟨(some 1), .assign (.tmp 32), none⟩] [0, 1, 5])
  (.seq (.reg [⟨(some 33), .move (.tmp 0), none⟩,
    ⟨(some 34), .move (.tmp 5), none⟩,
    ⟨(some 35), .move (.tmp 1), none⟩,
    ⟨(some 36), .indexAddr 29 (.tmp 33) (.tmp 34), none⟩,
    ⟨(some 37), .fieldAddr 89 (.tmp 36) 3, none⟩,
    ⟨none, .store 3 (.tmp 37) (.tmp 35), none⟩] [0, 1, 5])
  (.reg [⟨(some 38), .move (.tmp 1), none⟩,
    ⟨(some 39), .binOp .add 3 (.tmp 38) (.const (.int .i64 1)) 3, none⟩,
    ⟨(some 1), .assign (.tmp 39), none⟩] [0, 1, 5])))))))))
  (.reg [⟨(some 10), .move (.tmp 5), none⟩,
    ⟨(some 11), .binOp .add 3 (.tmp 10) (.const (.int .i64 1)) 3, none⟩,
    ⟨(some 5), .assign (.tmp 11), none⟩] [0, 1, 5])))
/-- loop.example/g01062/laws.markMailS: number 17, params [0, 1] -/
def laws_markMailS_c : ACode := (.seq (.reg [⟨(some 4), .assign (.const (.int .i64 0)), none⟩] [0, 1])
  (.seq (.seq (.reg [⟨(some 5), .assign (.const (.int .i64 0)), none⟩] [0, 1, 5])
  (.block 0 (.loop laws_markMailS_l0)))
  (.seq (.reg [⟨(some 40), .move (.tmp 1), none⟩,
    ⟨(some 4), .assign (.tmp 40), none⟩] [4])
  .ret)))
theorem laws_markMailS_k : fnOk Try.prog (fun _ => false) 17 = some (laws_markMailS_c.strip, 41, [.tmp 4]) := by kernel_rfl
/-- head: [0, 1, 2, 8, 9] -/
def spec_TrueCovers_l0 : ACode := (.seq (.seq (.reg [⟨(some 25), .move (.tmp 9), none⟩,
    ⟨(some 26), .move (.tmp 2), none⟩,
    ⟨(some 27), .call ⟨.builtin .len, #[(.tmp 26)], #[31]⟩, none⟩,
    ⟨(some 28), .binOp .lss 3 (.tmp 25) (.tmp 27) 3, none⟩] [0, 1, 2, 8, 9, 28])
  (.cond (.tmp 28) .skip
  (.exit 0)))
  (.seq (.block 1 (.seq (.reg [⟨(some 31), .move (.tmp 0), none⟩,
    ⟨(some 32), .move (.tmp 1), none⟩,
    ⟨(some 33), .move (.tmp 2), none⟩,
    ⟨(some 34), .move (.tmp 9), none⟩,
    ⟨(some 35), .indexAddr 31 (.tmp 33) (.tmp 34), none⟩,
    ⟨(some 36), .load 51 (.tmp 35), none⟩,
    ⟨(some 37), .call ⟨.value (.func 82), #[(.tmp 31), (.tmp 32), (.tmp 36)], #[43, 29, 51]⟩, none⟩,
    ⟨(some 38), .binOp .eql 3 (.tmp 37) (.const (.int .i64 0)) 3, none⟩] [0, 1, 2, 8, 9, 38])
  (.cond (.tmp 38) (.reg [⟨(some 39), .move (.tmp 8), none⟩,
    ⟨(some 40), .move (.tmp 2), none⟩,
    ⟨(some 41), .move (.tmp 9), none⟩,
    ⟨(some 42), .indexAddr 31 (.tmp 40) (.tmp 41), none⟩,
    ⟨(some 43), .fieldAddr 51 (.tmp 42) 0, none⟩,
    ⟨(some 44), .load 3 (.tmp 43), none⟩,
    ⟨(some 45), .buildSlice 26 1 #[(0, (.tmp 44))], none⟩,
    ⟨(some 46), .call ⟨.builtin .append, #[(.tmp 39), (.tmp 45)], #[26, 26]⟩, none⟩,
    ⟨(some 8), .assign (.tmp 46), none⟩] [0, 1, 2, 8, 9])
  .skip)))
  (.reg [⟨(some 29), .move (.tmp 9), none⟩,
    ⟨(some 30), .binOp .add 3 (.tmp 29) (.const (.int .i64 1)) 3, none⟩,
    ⟨(some 9), .assign (.tmp 30), none⟩] [0, 1, 2, 8, 9])))
/-- loop.example/g01062/spec.TrueCovers: number 22, params [0, 1, 2] -/
def spec_TrueCovers_c : ACode := (.seq (.reg [⟨(some 6), .assign (.const (.slice none 0 0)), none⟩,
    ⟨(some 7), .assign (.const (.bool false)), none⟩] [0, 1, 2])
  (.seq (.reg [⟨(some 10), .buildSlice 26 0 #[], none⟩,
    ⟨(some 8), .assign (.tmp 10), none⟩] [0, 1, 2, 8])
  (.seq (.seq (.reg [⟨(some 11), .move (.tmp 0), none⟩,
    ⟨(some 12), .call ⟨.value (.func 81), #[(.tmp 11)], #[43]⟩, none⟩,
    ⟨(some 13), .unOp .not 4 (.tmp 12), none⟩,
    ⟨(some 14), .move (.tmp 13), none⟩,
    ⟨(some 15), .move (.tmp 1), (some (some 14, false))⟩,
    ⟨(some 16), .call ⟨.value (.func 67), #[(.tmp 15)], #[29]⟩, (some (some 14, false))⟩,
    ⟨(some 17), .unOp .not 4 (.tmp 16), (some (some 14, false))⟩,
    ⟨(some 18), .pick (.tmp 14) (.const (.bool true)) (.tmp 17), none⟩,
    ⟨(some 19), .move (.tmp 18), none⟩,
    ⟨(some 20), .move (.tmp 2), (some (some 19, false))⟩,
    ⟨(some 21), .call ⟨.value (.func 68), #[(.tmp 20)], #[31]⟩, (some (some 19, false))⟩,
    ⟨(some 22), .unOp .not 4 (.tmp 21), (some (some 19, false))⟩,
    ⟨(some 23), .pick (.tmp 19) (.const (.bool true)) (.tmp 22), none⟩] [0, 1, 2, 8, 23])
  (.cond (.tmp 23) (.seq (.reg [⟨(some 24), .move (.tmp 8), none⟩,
    ⟨(some 6), .assign (.tmp 24), none⟩,
    ⟨(some 7), .assign (.const (.bool false)), none⟩] [6, 7])
  .ret)
  .skip))
  (.seq (.seq (.reg [⟨(some 9), .assign (.const (.int .i64 0)), none⟩] [0, 1, 2, 8, 9])
  (.block 0 (.loop spec_TrueCovers_l0)))
  (.seq (.reg [⟨(some 47), .move (.tmp 8), none⟩,
    ⟨(some 6), .assign (.tmp 47), none⟩,
    ⟨(some 7), .assign (.const (.bool true)), none⟩] [6, 7])
  .ret)))))
theorem spec_TrueCovers_k : fnOk Try.prog (fun _ => false) 22 = some (spec_TrueCovers_c.strip, 48, [.tmp 6, .tmp 7]) := by kernel_rfl
/-- head: [0, 1, 8, 24, 25, 26] -/
def impl_TrueCovers_l0 : ACode := (.seq (.reg [⟨(some 27), .binOp .lss 3 (.tmp 26) (.tmp 25) 3, none⟩] [0, 1, 8, 24, 25, 26, 27])
  (.seq (.cond (.tmp 27) .skip
  (.exit 0))
  (.seq (.block 1 (.seq (.reg [⟨(some 28), .indexAddr 31 (.tmp 24) (.tmp 26), none⟩,
    ⟨(some 29), .load 51 (.tmp 28), none⟩,
    ⟨(some 10), .alloc 51, none⟩,
    ⟨none, .store 51 (.tmp 10) (.tmp 29), none⟩] [0, 1, 8, 10, 24, 25, 26])
  (.seq (.reg [⟨(some 30), .move (.tmp 0), none⟩,
    ⟨(some 31), .move (.tmp 1), none⟩,
    ⟨(some 32), .load 51 (.tmp 10), none⟩,
    ⟨(some 33), .call ⟨.value (.func 85), #[(.tmp 30), (.tmp 31), (.tmp 32)], #[43, 29, 51]⟩, none⟩,
    ⟨(some 34), .binOp .eql 3 (.tmp 33) (.const (.int .i64 0)) 3, none⟩] [0, 1, 8, 10, 24, 25, 26, 34])
  (.cond (.tmp 34) (.reg [⟨(some 35), .move (.tmp 8), none⟩,
    ⟨(some 36), .fieldAddr 51 (.tmp 10) 0, none⟩,
    ⟨(some 37), .load 3 (.tmp 36), none⟩,
    ⟨(some 38), .buildSlice 26 1 #[(0, (.tmp 37))], none⟩,
    ⟨(some 39), .call ⟨.builtin .append, #[(.tmp 35), (.tmp 38)], #[26, 26]⟩, none⟩,
    ⟨(some 8), .assign (.tmp 39), none⟩] [0, 1, 8, 24, 25, 26])
  .skip))))
  (.reg [⟨(some 40), .binOp .add 3 (.tmp 26) (.const (.int .i64 1)) 3, none⟩,
    ⟨(some 26), .move (.tmp 40), none⟩] [0, 1, 8, 24, 25, 26]))))
/-- loop.example/g01062/impl.TrueCovers: number 24, params [0, 1, 2] -/
def impl_TrueCovers_c : ACode := (.seq (.reg [⟨(some 6), .assign (.const (.slice none 0 0)), none⟩,
    ⟨(some 7), .assign (.const (.bool false)), none⟩] [0, 1, 2])
  (.seq (.seq (.reg [⟨(some 11), .move (.tmp 0), none⟩,
    ⟨(some 12), .call ⟨.value (.func 84), #[(.tmp 11)], #[43]⟩, none⟩,
    ⟨(some 13), .unOp .not 4 (.tmp 12), none⟩,
    ⟨(some 14), .move (.tmp 13), none⟩,
    ⟨(some 15), .move (.tmp 1), (some (some 14, false))⟩,
    ⟨(some 16), .call ⟨.value (.func 73), #[(.tmp 15)], #[29]⟩, (some (some 14, false))⟩,
    ⟨(some 17), .unOp .not 4 (.tmp 16), (some (some 14, false))⟩,
    ⟨(some 18), .pick (.tmp 14) (.const (.bool true)) (.tmp 17), none⟩,
    ⟨(some 19), .move (.tmp 18), none⟩,
    ⟨(some 20), .move (.tmp 2), (some (some 19, false))⟩,
    ⟨(some 21), .call ⟨.value (.func 74), #[(.tmp 20)], #[31]⟩, (some (some 19, false))⟩,
    ⟨(some 22), .unOp .not 4 (.tmp 21), (some (some 19, false))⟩,
    ⟨(some 23), .pick (.tmp 19) (.const (.bool true)) (.tmp 22), none⟩] [0, 1, 2, 23])
  (.cond (.tmp 23) (.seq (.reg [⟨(some 6), .assign (.const (.slice none 0 0)), none⟩,
    ⟨(some 7), .assign (.const (.bool false)), none⟩] [6, 7])
  .ret)
  .skip))
  (.seq (.reg [⟨(some 8), .assign (.const (.slice none 0 0)), none⟩] [0, 1, 2, 8])
  (.seq (.seq (.reg [⟨(some 24), .move (.tmp 2), none⟩,
    ⟨(some 25), .call ⟨.builtin .len, #[(.tmp 24)], #[31]⟩, none⟩,
    ⟨(some 26), .move (.const (.int .i64 0)), none⟩] [0, 1, 8, 24, 25, 26])
  (.block 0 (.loop impl_TrueCovers_l0)))
  (.seq (.reg [⟨(some 41), .move (.tmp 8), none⟩,
    ⟨(some 6), .assign (.tmp 41), none⟩,
    ⟨(some 7), .assign (.const (.bool true)), none⟩] [6, 7])
  .ret)))))
theorem impl_TrueCovers_k : fnOk Try.prog (fun _ => false) 24 = some (impl_TrueCovers_c.strip, 42, [.tmp 6, .tmp 7]) := by kernel_rfl
/-- loop.example/g01062/impl.FaultOf: number 29, params [0, 1, 2] -/
def impl_FaultOf_c : ACode := (.seq (.reg [⟨(some 5), .box 51 (.tmp 2), none⟩,
    ⟨(some 6), .assign (.const (.int .i64 0)), none⟩,
    ⟨(some 7), .assign (.const (.bool false)), none⟩] [0, 1, 5])
  (.seq (.seq (.reg [⟨(some 8), .move (.tmp 0), none⟩,
    ⟨(some 9), .call ⟨.value (.func 84), #[(.tmp 8)], #[43]⟩, none⟩,
    ⟨(some 10), .unOp .not 4 (.tmp 9), none⟩,
    ⟨(some 11), .move (.tmp 10), none⟩,
    ⟨(some 12), .move (.tmp 1), (some (some 11, false))⟩,
    ⟨(some 13), .call ⟨.value (.func 73), #[(.tmp 12)], #[29]⟩, (some (some 11, false))⟩,
    ⟨(some 14), .unOp .not 4 (.tmp 13), (some (some 11, false))⟩,
    ⟨(some 15), .pick (.tmp 11) (.const (.bool true)) (.tmp 14), none⟩,
    ⟨(some 16), .move (.tmp 15), none⟩,
    ⟨(some 17), .load 51 (.tmp 5), (some (some 16, false))⟩,
    ⟨(some 18), .call ⟨.value (.func 90), #[(.tmp 17)], #[51]⟩, (some (some 16, false))⟩,
    ⟨(some 19), .unOp .not 4 (.tmp 18), (some (some 16, false))⟩,
    ⟨(some 20), .pick (.tmp 16) (.const (.bool true)) (.tmp 19), none⟩] [0, 1, 5, 20])
  (.cond (.tmp 20) (.seq (.reg [⟨(some 6), .assign (.const (.int .i64 0)), none⟩,
    ⟨(some 7), .assign (.const (.bool false)), none⟩] [6, 7])
  .ret)
  .skip))
  (.seq (.reg [⟨(some 21), .move (.tmp 0), none⟩,
    ⟨(some 22), .move (.tmp 1), none⟩,
    ⟨(some 23), .load 51 (.tmp 5), none⟩,
    ⟨(some 24), .call ⟨.value (.func 85), #[(.tmp 21), (.tmp 22), (.tmp 23)], #[43, 29, 51]⟩, none⟩,
    ⟨(some 6), .assign (.tmp 24), none⟩,
    ⟨(some 7), .assign (.const (.bool true)), none⟩] [6, 7])
  .ret)))
theorem impl_FaultOf_k : fnOk Try.prog (fun _ => false) 29 = some (impl_FaultOf_c.strip, 25, [.tmp 6, .tmp 7]) := by kernel_rfl
/-- loop.example/g01062/spec.FaultOf: number 30, params [0, 1, 2] -/
def spec_FaultOf_c : ACode := (.seq (.reg [⟨(some 5), .box 51 (.tmp 2), none⟩,
    ⟨(some 6), .assign (.const (.int .i64 0)), none⟩,
    ⟨(some 7), .assign (.const (.bool false)), none⟩] [0, 1, 5])
  (.seq (.seq (.reg [⟨(some 8), .move (.tmp 0), none⟩,
    ⟨(some 9), .call ⟨.value (.func 81), #[(.tmp 8)], #[43]⟩, none⟩,
    ⟨(some 10), .unOp .not 4 (.tmp 9), none⟩,
    ⟨(some 11), .move (.tmp 10), none⟩,
    ⟨(some 12), .move (.tmp 1), (some (some 11, false))⟩,
    ⟨(some 13), .call ⟨.value (.func 67), #[(.tmp 12)], #[29]⟩, (some (some 11, false))⟩,
    ⟨(some 14), .unOp .not 4 (.tmp 13), (some (some 11, false))⟩,
    ⟨(some 15), .pick (.tmp 11) (.const (.bool true)) (.tmp 14), none⟩,
    ⟨(some 16), .move (.tmp 15), none⟩,
    ⟨(some 17), .load 51 (.tmp 5), (some (some 16, false))⟩,
    ⟨(some 18), .call ⟨.value (.func 91), #[(.tmp 17)], #[51]⟩, (some (some 16, false))⟩,
    ⟨(some 19), .unOp .not 4 (.tmp 18), (some (some 16, false))⟩,
    ⟨(some 20), .pick (.tmp 16) (.const (.bool true)) (.tmp 19), none⟩] [0, 1, 5, 20])
  (.cond (.tmp 20) (.seq (.reg [⟨(some 6), .assign (.const (.int .i64 0)), none⟩,
    ⟨(some 7), .assign (.const (.bool false)), none⟩] [6, 7])
  .ret)
  .skip))
  (.seq (.reg [⟨(some 21), .move (.tmp 0), none⟩,
    ⟨(some 22), .move (.tmp 1), none⟩,
    ⟨(some 23), .load 51 (.tmp 5), none⟩,
    ⟨(some 24), .call ⟨.value (.func 82), #[(.tmp 21), (.tmp 22), (.tmp 23)], #[43, 29, 51]⟩, none⟩,
    ⟨(some 6), .assign (.tmp 24), none⟩,
    ⟨(some 7), .assign (.const (.bool true)), none⟩] [6, 7])
  .ret)))
theorem spec_FaultOf_k : fnOk Try.prog (fun _ => false) 30 = some (spec_FaultOf_c.strip, 25, [.tmp 6, .tmp 7]) := by kernel_rfl
/-- loop.example/g01062/impl.DueOn: number 31, params [0, 1] -/
def impl_DueOn_c : ACode := (.seq (.reg [⟨(some 3), .box 51 (.tmp 1), none⟩,
    ⟨(some 4), .assign (.const (.int .i64 0)), none⟩,
    ⟨(some 5), .assign (.const (.bool false)), none⟩] [0, 3])
  (.seq (.seq (.reg [⟨(some 8), .move (.tmp 0), none⟩,
    ⟨(some 9), .call ⟨.value (.func 84), #[(.tmp 8)], #[43]⟩, none⟩,
    ⟨(some 10), .unOp .not 4 (.tmp 9), none⟩,
    ⟨(some 11), .move (.tmp 10), none⟩,
    ⟨(some 12), .load 51 (.tmp 3), (some (some 11, false))⟩,
    ⟨(some 13), .call ⟨.value (.func 90), #[(.tmp 12)], #[51]⟩, (some (some 11, false))⟩,
    ⟨(some 14), .unOp .not 4 (.tmp 13), (some (some 11, false))⟩,
    ⟨(some 15), .pick (.tmp 11) (.const (.bool true)) (.tmp 14), none⟩] [0, 3, 15])
  (.cond (.tmp 15) (.seq (.reg [⟨(some 4), .assign (.const (.int .i64 0)), none⟩,
    ⟨(some 5), .assign (.const (.bool false)), none⟩] [4, 5])
  .ret)
  .skip))
  (.seq (.reg [⟨(some 17), .move (.tmp 0), none⟩,
    ⟨(some 18), .fieldAddr 51 (.tmp 3) 1, none⟩,
    ⟨(some 19), .load 3 (.tmp 18), none⟩,
    ⟨(some 20), .fieldAddr 51 (.tmp 3) 2, none⟩,
    ⟨(some 21), .load 3 (.tmp 20), none⟩,
    ⟨(some 22), .fieldAddr 51 (.tmp 3) 3, none⟩,
    ⟨(some 23), .load 3 (.tmp 22), none⟩,
    ⟨(some 24), .call ⟨.value (.func 92), #[(.tmp 17), (.tmp 19), (.tmp 21), (.tmp 23)], #[43, 3, 3, 3]⟩, none⟩,
    ⟨(some 16), .move (.tmp 24), none⟩,
    ⟨(some 25), .extract (.tmp 16) 0, none⟩,
    ⟨(some 26), .extract (.tmp 16) 1, none⟩,
    ⟨(some 6), .assign (.tmp 25), none⟩,
    ⟨(some 7), .assign (.tmp 26), none⟩] [3, 6, 7])
  (.seq (.seq (.reg [⟨(some 27), .move (.tmp 7), none⟩,
    ⟨(some 28), .unOp .not 4 (.tmp 27), none⟩] [3, 6, 28])
  (.cond (.tmp 28) (.seq (.reg [⟨(some 4), .assign (.const (.int .i64 0)), none⟩,
    ⟨(some 5), .assign (.const (.bool false)), none⟩] [4, 5])
  .ret)
  .skip))
  (.seq (.reg [⟨(some 29), .move (.tmp 6), none⟩,
    ⟨(some 30), .fieldAddr 51 (.tmp 3) 4, none⟩,
    ⟨(some 31), .load 3 (.tmp 30), none⟩,
    ⟨(some 32), .binOp .sub 3 (.tmp 29) (.tmp 31) 3, none⟩,
    ⟨(some 33), .call ⟨.builtin .max, #[(.tmp 32), (.const (.int .i64 0))], #[3, 3]⟩, none⟩,
    ⟨(some 34), .binOp .mul 3 (.const (.int .i64 2)) (.tmp 33) 3, none⟩,
    ⟨(some 4), .assign (.tmp 34), none⟩,
    ⟨(some 5), .assign (.const (.bool true)), none⟩] [4, 5])
  .ret)))))
theorem impl_DueOn_k : fnOk Try.prog (fun _ => false) 31 = some (impl_DueOn_c.strip, 35, [.tmp 4, .tmp 5]) := by kernel_rfl
/-- loop.example/g01062/spec.DueOn: number 32, params [0, 1] -/
def spec_DueOn_c : ACode := (.seq (.reg [⟨(some 3), .box 51 (.tmp 1), none⟩,
    ⟨(some 4), .assign (.const (.int .i64 0)), none⟩,
    ⟨(some 5), .assign (.const (.bool false)), none⟩] [0, 3])
  (.seq (.seq (.reg [⟨(some 7), .move (.tmp 0), none⟩,
    ⟨(some 8), .call ⟨.value (.func 81), #[(.tmp 7)], #[43]⟩, none⟩,
    ⟨(some 9), .unOp .not 4 (.tmp 8), none⟩,
    ⟨(some 10), .move (.tmp 9), none⟩,
    ⟨(some 11), .load 51 (.tmp 3), (some (some 10, false))⟩,
    ⟨(some 12), .call ⟨.value (.func 91), #[(.tmp 11)], #[51]⟩, (some (some 10, false))⟩,
    ⟨(some 13), .unOp .not 4 (.tmp 12), (some (some 10, false))⟩,
    ⟨(some 14), .pick (.tmp 10) (.const (.bool true)) (.tmp 13), none⟩] [0, 3, 14])
  (.cond (.tmp 14) (.seq (.reg [⟨(some 4), .assign (.const (.int .i64 0)), none⟩,
    ⟨(some 5), .assign (.const (.bool false)), none⟩] [4, 5])
  .ret)
  .skip))
  (.seq (.reg [⟨(some 15), .move (.tmp 0), none⟩,
    ⟨(some 16), .fieldAddr 51 (.tmp 3) 1, none⟩,
    ⟨(some 17), .load 3 (.tmp 16), none⟩,
    ⟨(some 18), .fieldAddr 51 (.tmp 3) 2, none⟩,
    ⟨(some 19), .load 3 (.tmp 18), none⟩,
    ⟨(some 20), .fieldAddr 51 (.tmp 3) 3, none⟩,
    ⟨(some 21), .load 3 (.tmp 20), none⟩,
    ⟨(some 22), .call ⟨.value (.func 93), #[(.tmp 15), (.tmp 17), (.tmp 19), (.tmp 21)], #[43, 3, 3, 3]⟩, none⟩,
    ⟨(some 6), .assign (.tmp 22), none⟩] [3, 6])
  (.seq (.seq (.reg [⟨(some 23), .move (.tmp 6), none⟩,
    ⟨(some 24), .binOp .eql 3 (.tmp 23) (.const (.int .i64 0)) 3, none⟩] [3, 6, 24])
  (.cond (.tmp 24) (.seq (.reg [⟨(some 4), .assign (.const (.int .i64 0)), none⟩,
    ⟨(some 5), .assign (.const (.bool false)), none⟩] [4, 5])
  .ret)
  .skip))
  (.seq (.reg [⟨(some 25), .move (.tmp 6), none⟩,
    ⟨(some 26), .fieldAddr 51 (.tmp 3) 4, none⟩,
    ⟨(some 27), .load 3 (.tmp 26), none⟩,
    ⟨(some 28), .binOp .sub 3 (.tmp 25) (.tmp 27) 3, none⟩,
    ⟨(some 29), .call ⟨.value (.func 94), #[(.const (.int .i64 0)), (.tmp 28)], #[3, 3]⟩, none⟩,
    ⟨(some 30), .binOp .mul 3 (.const (.int .i64 2)) (.tmp 29) 3, none⟩,
    ⟨(some 4), .assign (.tmp 30), none⟩,
    ⟨(some 5), .assign (.const (.bool true)), none⟩] [4, 5])
  .ret)))))
theorem spec_DueOn_k : fnOk Try.prog (fun _ => false) 32 = some (spec_DueOn_c.strip, 31, [.tmp 4, .tmp 5]) := by kernel_rfl
/-- loop.example/g01062/impl.RouteOn: number 33, params [0, 1] -/
def impl_RouteOn_c : ACode := (.seq (.reg [⟨(some 3), .box 51 (.tmp 1), none⟩,
    ⟨(some 4), .assign (.const (.slice none 0 0)), none⟩,
    ⟨(some 5), .assign (.const (.bool false)), none⟩] [0, 3])
  (.seq (.seq (.reg [⟨(some 6), .move (.tmp 0), none⟩,
    ⟨(some 7), .call ⟨.value (.func 73), #[(.tmp 6)], #[29]⟩, none⟩,
    ⟨(some 8), .unOp .not 4 (.tmp 7), none⟩,
    ⟨(some 9), .move (.tmp 8), none⟩,
    ⟨(some 10), .load 51 (.tmp 3), (some (some 9, false))⟩,
    ⟨(some 11), .call ⟨.value (.func 90), #[(.tmp 10)], #[51]⟩, (some (some 9, false))⟩,
    ⟨(some 12), .unOp .not 4 (.tmp 11), (some (some 9, false))⟩,
    ⟨(some 13), .pick (.tmp 9) (.const (.bool true)) (.tmp 12), none⟩] [0, 3, 13])
  (.cond (.tmp 13) (.seq (.reg [⟨(some 4), .assign (.const (.slice none 0 0)), none⟩,
    ⟨(some 5), .assign (.const (.bool false)), none⟩] [4, 5])
  .ret)
  .skip))
  (.seq (.reg [⟨(some 14), .move (.tmp 0), none⟩,
    ⟨(some 15), .load 51 (.tmp 3), none⟩,
    ⟨(some 16), .call ⟨.value (.func 76), #[(.tmp 14), (.tmp 15)], #[29, 51]⟩, none⟩,
    ⟨(some 17), .extract (.tmp 16) 0, none⟩,
    ⟨(some 18), .extract (.tmp 16) 1, none⟩,
    ⟨(some 4), .assign (.tmp 17), none⟩,
    ⟨(some 5), .assign (.tmp 18), none⟩] [4, 5])
  .ret)))
theorem impl_RouteOn_k : fnOk Try.prog (fun _ => false) 33 = some (impl_RouteOn_c.strip, 19, [.tmp 4, .tmp 5]) := by kernel_rfl
/-- loop.example/g01062/spec.RouteOn: number 34, params [0, 1] -/
def spec_RouteOn_c : ACode := (.seq (.reg [⟨(some 3), .box 51 (.tmp 1), none⟩,
    ⟨(some 4), .assign (.const (.slice none 0 0)), none⟩,
    ⟨(some 5), .assign (.const (.bool false)), none⟩] [0, 3])
  (.seq (.seq (.reg [⟨(some 8), .move (.tmp 0), none⟩,
    ⟨(some 9), .call ⟨.value (.func 67), #[(.tmp 8)], #[29]⟩, none⟩,
    ⟨(some 10), .unOp .not 4 (.tmp 9), none⟩,
    ⟨(some 11), .move (.tmp 10), none⟩,
    ⟨(some 12), .load 51 (.tmp 3), (some (some 11, false))⟩,
    ⟨(some 13), .call ⟨.value (.func 91), #[(.tmp 12)], #[51]⟩, (some (some 11, false))⟩,
    ⟨(some 14), .unOp .not 4 (.tmp 13), (some (some 11, false))⟩,
    ⟨(some 15), .pick (.tmp 11) (.const (.bool true)) (.tmp 14), none⟩] [0, 3, 15])
  (.cond (.tmp 15) (.seq (.reg [⟨(some 16), .buildSlice 26 0 #[], none⟩,
    ⟨(some 4), .assign (.tmp 16), none⟩,
    ⟨(some 5), .assign (.const (.bool false)), none⟩] [4, 5])
  .ret)
  .skip))
  (.seq (.reg [⟨(some 18), .move (.tmp 0), none⟩,
    ⟨(some 19), .load 51 (.tmp 3), none⟩,
    ⟨(some 20), .call ⟨.value (.func 70), #[(.tmp 18), (.tmp 19)], #[29, 51]⟩, none⟩,
    ⟨(some 17), .move (.tmp 20), none⟩,
    ⟨(some 21), .extract (.tmp 17) 0, none⟩,
    ⟨(some 22), .extract (.tmp 17) 1, none⟩,
    ⟨(some 6), .assign (.tmp 21), none⟩,
    ⟨(some 7), .assign (.tmp 22), none⟩] [6, 7])
  (.seq (.reg [⟨(some 23), .move (.tmp 6), none⟩,
    ⟨(some 24), .move (.tmp 7), none⟩,
    ⟨(some 4), .assign (.tmp 23), none⟩,
    ⟨(some 5), .assign (.tmp 24), none⟩] [4, 5])
  .ret))))
theorem spec_RouteOn_k : fnOk Try.prog (fun _ => false) 34 = some (spec_RouteOn_c.strip, 25, [.tmp 4, .tmp 5]) := by kernel_rfl
/-- loop.example/g01062/impl.EndOfRoute: number 36, params [0, 1, 2, 3] -/
def impl_EndOfRoute_c : ACode := (.seq (.reg [⟨(some 8), .assign (.const (.int .i64 0)), none⟩,
    ⟨(some 9), .assign (.const (.int .i64 0)), none⟩,
    ⟨(some 10), .assign (.const (.bool false)), none⟩] [0, 1, 2, 3])
  (.seq (.seq (.reg [⟨(some 11), .move (.tmp 0), none⟩,
    ⟨(some 12), .call ⟨.value (.func 73), #[(.tmp 11)], #[29]⟩, none⟩,
    ⟨(some 13), .unOp .not 4 (.tmp 12), none⟩,
    ⟨(some 14), .move (.tmp 13), none⟩,
    ⟨(some 15), .move (.tmp 1), (some (some 14, false))⟩,
    ⟨(some 16), .call ⟨.value (.func 75), #[(.tmp 15)], #[3]⟩, (some (some 14, false))⟩,
    ⟨(some 17), .unOp .not 4 (.tmp 16), (some (some 14, false))⟩,
    ⟨(some 18), .pick (.tmp 14) (.const (.bool true)) (.tmp 17), none⟩,
    ⟨(some 19), .move (.tmp 18), none⟩,
    ⟨(some 20), .move (.tmp 2), (some (some 19, false))⟩,
    ⟨(some 21), .call ⟨.value (.func 95), #[(.tmp 20)], #[3]⟩, (some (some 19, false))⟩,
    ⟨(some 22), .unOp .not 4 (.tmp 21), (some (some 19, false))⟩,
    ⟨(some 23), .pick (.tmp 19) (.const (.bool true)) (.tmp 22), none⟩] [0, 1, 2, 3, 23])
  (.cond (.tmp 23) (.seq (.reg [⟨(some 8), .assign (.const (.int .i64 0)), none⟩,
    ⟨(some 9), .assign (.const (.int .i64 0)), none⟩,
    ⟨(some 10), .assign (.const (.bool false)), none⟩] [8, 9, 10])
  .ret)
  .skip))
  (.seq (.reg [⟨(some 24), .move (.tmp 0), none⟩,
    ⟨(some 25), .move (.tmp 1), none⟩,
    ⟨(some 26), .move (.tmp 2), none⟩,
    ⟨(some 27), .move (.tmp 3), none⟩,
    ⟨(some 28), .call ⟨.value (.func 96), #[(.tmp 24), (.tmp 25), (.tmp 26), (.tmp 27)], #[29, 3, 3, 26]⟩, none⟩,
    ⟨(some 29), .extract (.tmp 28) 0, none⟩,
    ⟨(some 30), .extract (.tmp 28) 1, none⟩,
    ⟨(some 31), .extract (.tmp 28) 2, none⟩,
    ⟨(some 8), .assign (.tmp 29), none⟩,
    ⟨(some 9), .assign (.tmp 30), none⟩,
    ⟨(some 10), .assign (.tmp 31), none⟩] [8, 9, 10])
  .ret)))
theorem impl_EndOfRoute_k : fnOk Try.prog (fun _ => false) 36 = some (impl_EndOfRoute_c.strip, 32, [.tmp 8, .tmp 9, .tmp 10]) := by kernel_rfl
/-- loop.example/g01062/impl.SpareMinutes: number 37, params [0, 1] -/
def impl_SpareMinutes_c : ACode := (.seq (.reg [⟨(some 3), .box 51 (.tmp 1), none⟩,
    ⟨(some 4), .assign (.const (.int .i64 0)), none⟩,
    ⟨(some 5), .assign (.const (.bool false)), none⟩] [0, 3])
  (.seq (.seq (.reg [⟨(some 8), .move (.tmp 0), none⟩,
    ⟨(some 9), .call ⟨.value (.func 73), #[(.tmp 8)], #[29]⟩, none⟩,
    ⟨(some 10), .unOp .not 4 (.tmp 9), none⟩,
    ⟨(some 11), .move (.tmp 10), none⟩,
    ⟨(some 12), .load 51 (.tmp 3), (some (some 11, false))⟩,
    ⟨(some 13), .call ⟨.value (.func 90), #[(.tmp 12)], #[51]⟩, (some (some 11, false))⟩,
    ⟨(some 14), .unOp .not 4 (.tmp 13), (some (some 11, false))⟩,
    ⟨(some 15), .pick (.tmp 11) (.const (.bool true)) (.tmp 14), none⟩] [0, 3, 15])
  (.cond (.tmp 15) (.seq (.reg [⟨(some 4), .assign (.const (.int .i64 0)), none⟩,
    ⟨(some 5), .assign (.const (.bool false)), none⟩] [4, 5])
  .ret)
  .skip))
  (.seq (.reg [⟨(some 17), .move (.tmp 0), none⟩,
    ⟨(some 18), .fieldAddr 51 (.tmp 3) 5, none⟩,
    ⟨(some 19), .load 3 (.tmp 18), none⟩,
    ⟨(some 20), .fieldAddr 51 (.tmp 3) 6, none⟩,
    ⟨(some 21), .load 3 (.tmp 20), none⟩,
    ⟨(some 22), .fieldAddr 51 (.tmp 3) 8, none⟩,
    ⟨(some 23), .load 3 (.tmp 22), none⟩,
    ⟨(some 24), .call ⟨.value (.func 97), #[(.tmp 17), (.tmp 19), (.tmp 21), (.tmp 23)], #[29, 3, 3, 3]⟩, none⟩,
    ⟨(some 16), .move (.tmp 24), none⟩,
    ⟨(some 25), .extract (.tmp 16) 0, none⟩,
    ⟨(some 26), .extract (.tmp 16) 1, none⟩,
    ⟨(some 6), .assign (.tmp 25), none⟩,
    ⟨(some 7), .assign (.tmp 26), none⟩] [3, 6, 7])
  (.seq (.seq (.reg [⟨(some 27), .move (.tmp 7), none⟩,
    ⟨(some 28), .unOp .not 4 (.tmp 27), none⟩,
    ⟨(some 29), .move (.tmp 28), none⟩,
    ⟨(some 30), .move (.tmp 6), (some (some 29, false))⟩,
    ⟨(some 31), .fieldAddr 51 (.tmp 3) 7, (some (some 29, false))⟩,
    ⟨(some 32), .load 3 (.tmp 31), (some (some 29, false))⟩,
    ⟨(some 33), .binOp .lss 3 (.tmp 30) (.tmp 32) 3, (some (some 29, false))⟩,
    ⟨(some 34), .pick (.tmp 29) (.const (.bool true)) (.tmp 33), none⟩] [3, 6, 34])
  (.cond (.tmp 34) (.seq (.reg [⟨(some 4), .assign (.const (.int .i64 0)), none⟩,
    ⟨(some 5), .assign (.const (.bool false)), none⟩] [4, 5])
  .ret)
  .skip))
  (.seq (.reg [⟨(some 35), .move (.tmp 6), none⟩,
    ⟨(some 36), .fieldAddr 51 (.tmp 3) 7, none⟩,
    ⟨(some 37), .load 3 (.tmp 36), none⟩,
    ⟨(some 38), .binOp .sub 3 (.tmp 35) (.tmp 37) 3, none⟩,
    ⟨(some 4), .assign (.tmp 38), none⟩,
    ⟨(some 5), .assign (.const (.bool true)), none⟩] [4, 5])
  .ret)))))
theorem impl_SpareMinutes_k : fnOk Try.prog (fun _ => false) 37 = some (impl_SpareMinutes_c.strip, 39, [.tmp 4, .tmp 5]) := by kernel_rfl
/-- loop.example/g01062/spec.SpareMinutes: number 38, params [0, 1] -/
def spec_SpareMinutes_c : ACode := (.seq (.reg [⟨(some 3), .box 51 (.tmp 1), none⟩,
    ⟨(some 4), .assign (.const (.int .i64 0)), none⟩,
    ⟨(some 5), .assign (.const (.bool false)), none⟩] [0, 3])
  (.seq (.seq (.reg [⟨(some 8), .move (.tmp 0), none⟩,
    ⟨(some 9), .call ⟨.value (.func 67), #[(.tmp 8)], #[29]⟩, none⟩,
    ⟨(some 10), .unOp .not 4 (.tmp 9), none⟩,
    ⟨(some 11), .move (.tmp 10), none⟩,
    ⟨(some 12), .load 51 (.tmp 3), (some (some 11, false))⟩,
    ⟨(some 13), .call ⟨.value (.func 91), #[(.tmp 12)], #[51]⟩, (some (some 11, false))⟩,
    ⟨(some 14), .unOp .not 4 (.tmp 13), (some (some 11, false))⟩,
    ⟨(some 15), .pick (.tmp 11) (.const (.bool true)) (.tmp 14), none⟩] [0, 3, 15])
  (.cond (.tmp 15) (.seq (.reg [⟨(some 4), .assign (.const (.int .i64 0)), none⟩,
    ⟨(some 5), .assign (.const (.bool false)), none⟩] [4, 5])
  .ret)
  .skip))
  (.seq (.reg [⟨(some 17), .move (.tmp 0), none⟩,
    ⟨(some 18), .fieldAddr 51 (.tmp 3) 5, none⟩,
    ⟨(some 19), .load 3 (.tmp 18), none⟩,
    ⟨(some 20), .fieldAddr 51 (.tmp 3) 6, none⟩,
    ⟨(some 21), .load 3 (.tmp 20), none⟩,
    ⟨(some 22), .fieldAddr 51 (.tmp 3) 8, none⟩,
    ⟨(some 23), .load 3 (.tmp 22), none⟩,
    ⟨(some 24), .call ⟨.value (.func 98), #[(.tmp 17), (.tmp 19), (.tmp 21), (.tmp 23)], #[29, 3, 3, 3]⟩, none⟩,
    ⟨(some 16), .move (.tmp 24), none⟩,
    ⟨(some 25), .extract (.tmp 16) 0, none⟩,
    ⟨(some 26), .extract (.tmp 16) 1, none⟩,
    ⟨(some 6), .assign (.tmp 25), none⟩,
    ⟨(some 7), .assign (.tmp 26), none⟩] [3, 6, 7])
  (.seq (.seq (.reg [⟨(some 27), .move (.tmp 7), none⟩,
    ⟨(some 28), .unOp .not 4 (.tmp 27), none⟩,
    ⟨(some 29), .move (.tmp 28), none⟩,
    ⟨(some 30), .move (.tmp 6), (some (some 29, false))⟩,
    ⟨(some 31), .fieldAddr 51 (.tmp 3) 7, (some (some 29, false))⟩,
    ⟨(some 32), .load 3 (.tmp 31), (some (some 29, false))⟩,
    ⟨(some 33), .binOp .lss 3 (.tmp 30) (.tmp 32) 3, (some (some 29, false))⟩,
    ⟨(some 34), .pick (.tmp 29) (.const (.bool true)) (.tmp 33), none⟩] [3, 6, 34])
  (.cond (.tmp 34) (.seq (.reg [⟨(some 4), .assign (.const (.int .i64 0)), none⟩,
    ⟨(some 5), .assign (.const (.bool false)), none⟩] [4, 5])
  .ret)
  .skip))
  (.seq (.reg [⟨(some 35), .move (.tmp 6), none⟩,
    ⟨(some 36), .fieldAddr 51 (.tmp 3) 7, none⟩,
    ⟨(some 37), .load 3 (.tmp 36), none⟩,
    ⟨(some 38), .binOp .sub 3 (.tmp 35) (.tmp 37) 3, none⟩,
    ⟨(some 4), .assign (.tmp 38), none⟩,
    ⟨(some 5), .assign (.const (.bool true)), none⟩] [4, 5])
  .ret)))))
theorem spec_SpareMinutes_k : fnOk Try.prog (fun _ => false) 38 = some (spec_SpareMinutes_c.strip, 39, [.tmp 4, .tmp 5]) := by kernel_rfl
/-- loop.example/g01062/impl.FaultText: number 43, params [0] -/
def impl_FaultText_c : ACode := (.seq (.reg [⟨(some 2), .assign (.const (.string ⟨#[]⟩)), none⟩,
    ⟨(some 3), .assign (.const (.bool false)), none⟩] [0])
  (.seq (.seq (.reg [⟨(some 4), .move (.tmp 0), none⟩,
    ⟨(some 5), .call ⟨.value (.func 101), #[(.tmp 4), (.const (.int .i64 0)), (.const (.int .i64 5))], #[3, 3, 3]⟩, none⟩,
    ⟨(some 6), .unOp .not 4 (.tmp 5), none⟩] [0, 6])
  (.cond (.tmp 6) (.seq (.reg [⟨(some 2), .assign (.const (.string ⟨#[]⟩)), none⟩,
    ⟨(some 3), .assign (.const (.bool false)), none⟩] [2, 3])
  .ret)
  .skip))
  (.seq (.reg [⟨(some 7), .build 118 #[(0, (.const (.string ⟨#[116, 114, 117, 101]⟩))), (1, (.const (.string ⟨#[122, 111, 110, 101]⟩))), (2, (.const (.string ⟨#[115, 104, 111, 114, 116]⟩))), (3, (.const (.string ⟨#[111, 118, 101, 114]⟩))), (4, (.const (.string ⟨#[114, 111, 117, 116, 101]⟩))), (5, (.const (.string ⟨#[101, 97, 114, 108, 121]⟩)))], none⟩,
    ⟨(some 8), .move (.tmp 0), none⟩,
    ⟨(some 9), .index 118 (.tmp 7) (.tmp 8), none⟩,
    ⟨(some 2), .assign (.tmp 9), none⟩,
    ⟨(some 3), .assign (.const (.bool true)), none⟩] [2, 3])
  .ret)))
theorem impl_FaultText_k : fnOk Try.prog (fun _ => false) 43 = some (impl_FaultText_c.strip, 10, [.tmp 2, .tmp 3]) := by kernel_rfl
/-- loop.example/g01062/spec.FaultText: number 44, params [0] -/
def spec_FaultText_c : ACode := (.seq (.reg [⟨(some 2), .assign (.const (.string ⟨#[]⟩)), none⟩,
    ⟨(some 3), .assign (.const (.bool false)), none⟩] [0])
  (.seq (.seq (.reg [⟨(some 4), .move (.tmp 0), none⟩,
    ⟨(some 5), .call ⟨.value (.func 102), #[(.tmp 4), (.const (.int .i64 0)), (.const (.int .i64 5))], #[3, 3, 3]⟩, none⟩,
    ⟨(some 6), .unOp .not 4 (.tmp 5), none⟩] [0, 6])
  (.cond (.tmp 6) (.seq (.reg [⟨(some 2), .assign (.const (.string ⟨#[]⟩)), none⟩,
    ⟨(some 3), .assign (.const (.bool false)), none⟩] [2, 3])
  .ret)
  .skip))
  (.seq (.reg [⟨(some 7), .buildSlice 119 6 #[(0, (.const (.string ⟨#[116, 114, 117, 101]⟩))), (1, (.const (.string ⟨#[122, 111, 110, 101]⟩))), (2, (.const (.string ⟨#[115, 104, 111, 114, 116]⟩))), (3, (.const (.string ⟨#[111, 118, 101, 114]⟩))), (4, (.const (.string ⟨#[114, 111, 117, 116, 101]⟩))), (5, (.const (.string ⟨#[101, 97, 114, 108, 121]⟩)))], none⟩,
    ⟨(some 8), .move (.tmp 0), none⟩,
    ⟨(some 9), .indexAddr 119 (.tmp 7) (.tmp 8), none⟩,
    ⟨(some 10), .load 9 (.tmp 9), none⟩,
    ⟨(some 2), .assign (.tmp 10), none⟩,
    ⟨(some 3), .assign (.const (.bool true)), none⟩] [2, 3])
  .ret)))
theorem spec_FaultText_k : fnOk Try.prog (fun _ => false) 44 = some (spec_FaultText_c.strip, 11, [.tmp 2, .tmp 3]) := by kernel_rfl
/-- head: [2, 3, 6, 37, 38, 39] -/
def impl_ChangeOf_l0 : ACode := (.seq (.reg [⟨(some 40), .binOp .lss 3 (.tmp 39) (.tmp 38) 3, none⟩] [2, 3, 6, 37, 38, 39, 40])
  (.seq (.cond (.tmp 40) .skip
  (.exit 0))
  (.seq (.block 1 (.seq (.reg [⟨(some 41), .move (.tmp 39), none⟩,
    ⟨(some 42), .indexAddr 127 (.tmp 37) (.tmp 39), none⟩,
    ⟨(some 43), .load 4 (.tmp 42), none⟩,
    ⟨(some 7), .assign (.tmp 41), none⟩,
    ⟨(some 8), .assign (.tmp 43), none⟩] [2, 3, 6, 7, 8, 37, 38, 39])
  (.seq (.reg [⟨(some 44), .move (.tmp 8), none⟩] [2, 3, 6, 7, 37, 38, 39, 44])
  (.cond (.tmp 44) (.reg [⟨(some 45), .move (.tmp 6), none⟩,
    ⟨(some 46), .move (.tmp 7), none⟩,
    ⟨(some 47), .binOp .shl 3 (.const (.int .i64 1)) (.tmp 46) 3, none⟩,
    ⟨(some 48), .binOp .add 3 (.tmp 45) (.tmp 47) 3, none⟩,
    ⟨(some 6), .assign (.tmp 48), none⟩] [2, 3, 6, 37, 38, 39])
  .skip))))
  (.reg [⟨(some 49), .binOp .add 3 (.tmp 39) (.const (.int .i64 1)) 3, none⟩,
    ⟨(some 39), .move (.tmp 49), none⟩] [2, 3, 6, 37, 38, 39]))))
/-- loop.example/g01062/impl.ChangeOf: number 59, params [0, 1] -/
def impl_ChangeOf_c : ACode := (.seq (.reg [⟨(some 2), .box 51 (.tmp 0), none⟩,
    ⟨(some 3), .box 51 (.tmp 1), none⟩,
    ⟨(some 4), .assign (.const (.int .i64 0)), none⟩,
    ⟨(some 5), .assign (.const (.bool false)), none⟩] [2, 3])
  (.seq (.seq (.reg [⟨(some 9), .load 51 (.tmp 2), none⟩,
    ⟨(some 10), .call ⟨.value (.func 90), #[(.tmp 9)], #[51]⟩, none⟩,
    ⟨(some 11), .unOp .not 4 (.tmp 10), none⟩,
    ⟨(some 12), .move (.tmp 11), none⟩,
    ⟨(some 13), .load 51 (.tmp 3), (some (some 12, false))⟩,
    ⟨(some 14), .call ⟨.value (.func 90), #[(.tmp 13)], #[51]⟩, (some (some 12, false))⟩,
    ⟨(some 15), .unOp .not 4 (.tmp 14), (some (some 12, false))⟩,
    ⟨(some 16), .pick (.tmp 12) (.const (.bool true)) (.tmp 15), none⟩] [2, 3, 16])
  (.cond (.tmp 16) (.seq (.reg [⟨(some 4), .assign (.const (.int .i64 0)), none⟩,
    ⟨(some 5), .assign (.const (.bool false)), none⟩] [4, 5])
  .ret)
  .skip))
  (.seq (.reg [⟨(some 6), .assign (.const (.int .i64 0)), none⟩] [2, 3, 6])
  (.seq (.seq (.reg [⟨(some 17), .fieldAddr 51 (.tmp 2) 1, none⟩,
    ⟨(some 18), .load 3 (.tmp 17), none⟩,
    ⟨(some 19), .fieldAddr 51 (.tmp 3) 1, none⟩,
    ⟨(some 20), .load 3 (.tmp 19), none⟩,
    ⟨(some 21), .binOp .neq 3 (.tmp 18) (.tmp 20) 3, none⟩,
    ⟨(some 22), .fieldAddr 51 (.tmp 2) 2, none⟩,
    ⟨(some 23), .load 3 (.tmp 22), none⟩,
    ⟨(some 24), .fieldAddr 51 (.tmp 3) 2, none⟩,
    ⟨(some 25), .load 3 (.tmp 24), none⟩,
    ⟨(some 26), .binOp .neq 3 (.tmp 23) (.tmp 25) 3, none⟩,
    ⟨(some 27), .fieldAddr 51 (.tmp 2) 3, none⟩,
    ⟨(some 28), .load 3 (.tmp 27), none⟩,
    ⟨(some 29), .fieldAddr 51 (.tmp 3) 3, none⟩,
    ⟨(some 30), .load 3 (.tmp 29), none⟩,
    ⟨(some 31), .binOp .neq 3 (.tmp 28) (.tmp 30) 3, none⟩,
    ⟨(some 32), .fieldAddr 51 (.tmp 2) 4, none⟩,
    ⟨(some 33), .load 3 (.tmp 32), none⟩,
    ⟨(some 34), .fieldAddr 51 (.tmp 3) 4, none⟩,
    ⟨(some 35), .load 3 (.tmp 34), none⟩,
    ⟨(some 36), .binOp .neq 3 (.tmp 33) (.tmp 35) 3, none⟩,
    ⟨(some 37), .buildSlice 127 4 #[(0, (.tmp 21)), (1, (.tmp 26)), (2, (.tmp 31)), (3, (.tmp 36))], none⟩,
    ⟨(some 38), .call ⟨.builtin .len, #[(.tmp 37)], #[127]⟩, none⟩,
    ⟨(some 39), .move (.const (.int .i64 0)), none⟩] [2, 3, 6, 37, 38, 39])
  (.block 0 (.loop impl_ChangeOf_l0)))
  (.seq (.regF [⟨(some 52), .fieldAddr 51 (.tmp 3) 2, none⟩,
    ⟨(some 54), .fieldAddr 51 (.tmp 3) 3, none⟩,
    ⟨(some 56), .fieldAddr 51 (.tmp 3) 4, none⟩]
    [50, 51, 58, 53, 59, 55, 60, 57, 61] [.load 3 (.tmp 52), .load 3 (.tmp 54), .load 3 (.tmp 56)] [] []
    [⟨(some 50), .fieldAddr 51 (.tmp 3) 1, none⟩,
    ⟨(some 51), .load 3 (.tmp 50), none⟩,
    ⟨(some 58), .fieldAddr 51 (.tmp 2) 1, none⟩,
    ⟨none, .store 3 (.tmp 58) (.tmp 51), none⟩,
    ⟨(some 53), .load 3 (.tmp 52), none⟩,
    ⟨(some 59), .fieldAddr 51 (.tmp 2) 2, none⟩,
    ⟨none, .store 3 (.tmp 59) (.tmp 53), none⟩,
    ⟨(some 55), .load 3 (.tmp 54), none⟩,
    ⟨(some 60), .fieldAddr 51 (.tmp 2) 3, none⟩,
    ⟨none, .store 3 (.tmp 60) (.tmp 55), none⟩,
    ⟨(some 57), .load 3 (.tmp 56), none⟩,
    ⟨(some 61), .fieldAddr 51 (.tmp 2) 4, none⟩,
    ⟨none, .store 3 (.tmp 61) (.tmp 57), none⟩] [2, 3, 6])
  (.seq (.seq (.reg [⟨(some 62), .load 51 (.tmp 2), none⟩,
    ⟨(some 63), .load 51 (.tmp 3), none⟩,
    ⟨(some 64), .binOp .neq 51 (.tmp 62) (.tmp 63) 51, none⟩] [6, 64])
  (.cond (.tmp 64) (.seq (.reg [⟨(some 4), .assign (.const (.int .i64 0)), none⟩,
    ⟨(some 5), .assign (.const (.bool false)), none⟩] [4, 5])
  .ret)
  .skip))
  (.seq (.reg [⟨(some 65), .move (.tmp 6), none⟩,
    ⟨(some 4), .assign (.tmp 65), none⟩,
    ⟨(some 5), .assign (.const (.bool true)), none⟩] [4, 5])
  .ret)))))))
theorem impl_ChangeOf_k : fnOk Try.prog (fun _ => false) 59 = some (impl_ChangeOf_c.strip, 66, [.tmp 4, .tmp 5]) := by kernel_rfl
/-- loop.example/g01062/spec.ChangeOf: number 61, params [0, 1] -/
def spec_ChangeOf_c : ACode := (.seq (.reg [⟨(some 2), .box 51 (.tmp 0), none⟩,
    ⟨(some 3), .box 51 (.tmp 1), none⟩,
    ⟨(some 4), .assign (.const (.int .i64 0)), none⟩,
    ⟨(some 5), .assign (.const (.bool false)), none⟩] [2, 3])
  (.seq (.seq (.reg [⟨(some 7), .load 51 (.tmp 2), none⟩,
    ⟨(some 8), .call ⟨.value (.func 91), #[(.tmp 7)], #[51]⟩, none⟩,
    ⟨(some 9), .unOp .not 4 (.tmp 8), none⟩,
    ⟨(some 10), .move (.tmp 9), none⟩,
    ⟨(some 11), .load 51 (.tmp 3), (some (some 10, false))⟩,
    ⟨(some 12), .call ⟨.value (.func 91), #[(.tmp 11)], #[51]⟩, (some (some 10, false))⟩,
    ⟨(some 13), .unOp .not 4 (.tmp 12), (some (some 10, false))⟩,
    ⟨(some 14), .pick (.tmp 10) (.const (.bool true)) (.tmp 13), none⟩] [2, 3, 14])
  (.cond (.tmp 14) (.seq (.reg [⟨(some 4), .assign (.const (.int .i64 0)), none⟩,
    ⟨(some 5), .assign (.const (.bool false)), none⟩] [4, 5])
  .ret)
  .skip))
  (.seq (.reg [⟨(some 6), .assign (.const (.int .i64 0)), none⟩] [2, 3, 6])
  (.seq (.seq (.reg [⟨(some 15), .fieldAddr 51 (.tmp 2) 1, none⟩,
    ⟨(some 16), .load 3 (.tmp 15), none⟩,
    ⟨(some 17), .fieldAddr 51 (.tmp 3) 1, none⟩,
    ⟨(some 18), .load 3 (.tmp 17), none⟩,
    ⟨(some 19), .binOp .neq 3 (.tmp 16) (.tmp 18) 3, none⟩] [2, 3, 6, 19])
  (.cond (.tmp 19) (.reg [⟨(some 20), .move (.tmp 6), none⟩,
    ⟨(some 21), .binOp .add 3 (.tmp 20) (.const (.int .i64 1)) 3, none⟩,
    ⟨(some 6), .assign (.tmp 21), none⟩] [2, 3, 6])
  .skip))
  (.seq (.seq (.reg [⟨(some 22), .fieldAddr 51 (.tmp 2) 2, none⟩,
    ⟨(some 23), .load 3 (.tmp 22), none⟩,
    ⟨(some 24), .fieldAddr 51 (.tmp 3) 2, none⟩,
    ⟨(some 25), .load 3 (.tmp 24), none⟩,
    ⟨(some 26), .binOp .neq 3 (.tmp 23) (.tmp 25) 3, none⟩] [2, 3, 6, 26])
  (.cond (.tmp 26) (.reg [⟨(some 27), .move (.tmp 6), none⟩,
    ⟨(some 28), .binOp .add 3 (.tmp 27) (.const (.int .i64 2)) 3, none⟩,
    ⟨(some 6), .assign (.tmp 28), none⟩] [2, 3, 6])
  .skip))
  (.seq (.seq (.reg [⟨(some 29), .fieldAddr 51 (.tmp 2) 3, none⟩,
    ⟨(some 30), .load 3 (.tmp 29), none⟩,
    ⟨(some 31), .fieldAddr 51 (.tmp 3) 3, none⟩,
    ⟨(some 32), .load 3 (.tmp 31), none⟩,
    ⟨(some 33), .binOp .neq 3 (.tmp 30) (.tmp 32) 3, none⟩] [2, 3, 6, 33])
  (.cond (.tmp 33) (.reg [⟨(some 34), .move (.tmp 6), none⟩,
    ⟨(some 35), .binOp .add 3 (.tmp 34) (.const (.int .i64 4)) 3, none⟩,
    ⟨(some 6), .assign (.tmp 35), none⟩] [2, 3, 6])
  .skip))
  (.seq (.seq (.reg [⟨(some 36), .fieldAddr 51 (.tmp 2) 4, none⟩,
    ⟨(some 37), .load 3 (.tmp 36), none⟩,
    ⟨(some 38), .fieldAddr 51 (.tmp 3) 4, none⟩,
    ⟨(some 39), .load 3 (.tmp 38), none⟩,
    ⟨(some 40), .binOp .neq 3 (.tmp 37) (.tmp 39) 3, none⟩] [2, 3, 6, 40])
  (.cond (.tmp 40) (.reg [⟨(some 41), .move (.tmp 6), none⟩,
    ⟨(some 42), .binOp .add 3 (.tmp 41) (.const (.int .i64 8)) 3, none⟩,
    ⟨(some 6), .assign (.tmp 42), none⟩] [2, 3, 6])
  .skip))
  (.seq (.reg [⟨(some 43), .fieldAddr 51 (.tmp 3) 1, none⟩,
    ⟨(some 44), .load 3 (.tmp 43), none⟩,
    ⟨(some 45), .fieldAddr 51 (.tmp 2) 1, none⟩,
    ⟨none, .store 3 (.tmp 45) (.tmp 44), none⟩] [2, 3, 6])
  (.seq (.reg [⟨(some 46), .fieldAddr 51 (.tmp 3) 2, none⟩,
    ⟨(some 47), .load 3 (.tmp 46), none⟩,
    ⟨(some 48), .fieldAddr 51 (.tmp 2) 2, none⟩,
    ⟨none, .store 3 (.tmp 48) (.tmp 47), none⟩] [2, 3, 6])
  (.seq (.reg [⟨(some 49), .fieldAddr 51 (.tmp 3) 3, none⟩,
    ⟨(some 50), .load 3 (.tmp 49), none⟩,
    ⟨(some 51), .fieldAddr 51 (.tmp 2) 3, none⟩,
    ⟨none, .store 3 (.tmp 51) (.tmp 50), none⟩] [2, 3, 6])
  (.seq (.reg [⟨(some 52), .fieldAddr 51 (.tmp 3) 4, none⟩,
    ⟨(some 53), .load 3 (.tmp 52), none⟩,
    ⟨(some 54), .fieldAddr 51 (.tmp 2) 4, none⟩,
    ⟨none, .store 3 (.tmp 54) (.tmp 53), none⟩] [2, 3, 6])
  (.seq (.seq (.reg [⟨(some 55), .load 51 (.tmp 2), none⟩,
    ⟨(some 56), .load 51 (.tmp 3), none⟩,
    ⟨(some 57), .binOp .neq 51 (.tmp 55) (.tmp 56) 51, none⟩] [6, 57])
  (.cond (.tmp 57) (.seq (.reg [⟨(some 4), .assign (.const (.int .i64 0)), none⟩,
    ⟨(some 5), .assign (.const (.bool false)), none⟩] [4, 5])
  .ret)
  .skip))
  (.seq (.reg [⟨(some 58), .move (.tmp 6), none⟩,
    ⟨(some 4), .assign (.tmp 58), none⟩,
    ⟨(some 5), .assign (.const (.bool true)), none⟩] [4, 5])
  .ret)))))))))))))
theorem spec_ChangeOf_k : fnOk Try.prog (fun _ => false) 61 = some (spec_ChangeOf_c.strip, 59, [.tmp 4, .tmp 5]) := by kernel_rfl
/-- head: [0, 4, 10, 11, 12] -/
def impl_ChangeText_l0 : ACode := (.seq (.reg [⟨(some 13), .binOp .lss 3 (.tmp 12) (.tmp 11) 3, none⟩] [0, 4, 10, 11, 12, 13])
  (.seq (.cond (.tmp 13) .skip
  (.exit 0))
  (.seq (.block 1 (.seq (.reg [⟨(some 14), .move (.tmp 12), none⟩,
    ⟨(some 15), .indexAddr 119 (.tmp 10) (.tmp 12), none⟩,
    ⟨(some 16), .load 9 (.tmp 15), none⟩,
    ⟨(some 5), .assign (.tmp 14), none⟩,
    ⟨(some 6), .assign (.tmp 16), none⟩] [0, 4, 5, 6, 10, 11, 12])
  (.seq (.reg [⟨(some 17), .move (.tmp 0), none⟩,
    ⟨(some 18), .move (.tmp 5), none⟩,
    ⟨(some 19), .binOp .shr 3 (.tmp 17) (.tmp 18) 3, none⟩,
    ⟨(some 20), .binOp .and 3 (.tmp 19) (.const (.int .i64 1)) 3, none⟩,
    ⟨(some 21), .binOp .eql 3 (.tmp 20) (.const (.int .i64 1)) 3, none⟩] [0, 4, 6, 10, 11, 12, 21])
  (.cond (.tmp 21) (.reg [⟨(some 22), .move (.tmp 4), none⟩,
    ⟨(some 23), .move (.tmp 6), none⟩,
    ⟨(some 24), .buildSlice 119 1 #[(0, (.tmp 23))], none⟩,
    ⟨(some 25), .call ⟨.builtin .append, #[(.tmp 22), (.tmp 24)], #[119, 119]⟩, none⟩,
    ⟨(some 4), .assign (.tmp 25), none⟩] [0, 4, 10, 11, 12])
  .skip))))
  (.reg [⟨(some 26), .binOp .add 3 (.tmp 12) (.const (.int .i64 1)) 3, none⟩,
    ⟨(some 12), .move (.tmp 26), none⟩] [0, 4, 10, 11, 12]))))
/-- loop.example/g01062/impl.ChangeText: number 65, params [0] -/
def impl_ChangeText_c : ACode := (.seq (.reg [⟨(some 2), .assign (.const (.string ⟨#[]⟩)), none⟩,
    ⟨(some 3), .assign (.const (.bool false)), none⟩] [0])
  (.seq (.seq (.reg [⟨(some 7), .move (.tmp 0), none⟩,
    ⟨(some 8), .call ⟨.value (.func 101), #[(.tmp 7), (.const (.int .i64 0)), (.const (.int .i64 15))], #[3, 3, 3]⟩, none⟩,
    ⟨(some 9), .unOp .not 4 (.tmp 8), none⟩] [0, 9])
  (.cond (.tmp 9) (.seq (.reg [⟨(some 2), .assign (.const (.string ⟨#[]⟩)), none⟩,
    ⟨(some 3), .assign (.const (.bool false)), none⟩] [2, 3])
  .ret)
  .skip))
  (.seq (.reg [⟨(some 4), .assign (.const (.slice none 0 0)), none⟩] [0, 4])
  (.seq (.seq (.reg [⟨(some 10), .buildSlice 119 4 #[(0, (.const (.string ⟨#[100, 97, 121]⟩))), (1, (.const (.string ⟨#[122, 111, 110, 101]⟩))), (2, (.const (.string ⟨#[103, 114, 97, 109, 115]⟩))), (3, (.const (.string ⟨#[112, 97, 105, 100]⟩)))], none⟩,
    ⟨(some 11), .call ⟨.builtin .len, #[(.tmp 10)], #[119]⟩, none⟩,
    ⟨(some 12), .move (.const (.int .i64 0)), none⟩] [0, 4, 10, 11, 12])
  (.block 0 (.loop impl_ChangeText_l0)))
  (.seq (.seq (.reg [⟨(some 27), .move (.tmp 4), none⟩,
    ⟨(some 28), .call ⟨.builtin .len, #[(.tmp 27)], #[119]⟩, none⟩,
    ⟨(some 29), .binOp .eql 3 (.tmp 28) (.const (.int .i64 0)) 3, none⟩] [4, 29])
  (.cond (.tmp 29) (.seq (.reg [⟨(some 2), .assign (.const (.string ⟨#[110, 111, 110, 101]⟩)), none⟩,
    ⟨(some 3), .assign (.const (.bool true)), none⟩] [2, 3])
  .ret)
  .skip))
  (.seq (.reg [⟨(some 30), .move (.tmp 4), none⟩,
    ⟨(some 31), .call ⟨.value (.func 119), #[(.tmp 30), (.const (.string ⟨#[43]⟩))], #[119, 9]⟩, none⟩,
    ⟨(some 2), .assign (.tmp 31), none⟩,
    ⟨(some 3), .assign (.const (.bool true)), none⟩] [2, 3])
  .ret))))))
theorem impl_ChangeText_k : fnOk Try.prog (fun _ => false) 65 = some (impl_ChangeText_c.strip, 32, [.tmp 2, .tmp 3]) := by kernel_rfl
/-- head: [0, 4, 5] -/
def spec_ChangeText_l0 : ACode := (.seq (.seq (.reg [⟨(some 9), .move (.tmp 5), none⟩,
    ⟨(some 10), .binOp .lss 3 (.tmp 9) (.const (.int .i64 4)) 3, none⟩] [0, 4, 5, 10])
  (.cond (.tmp 10) .skip
  (.exit 0)))
  (.seq (.block 1 (.seq (.seq (.reg [⟨(some 13), .move (.tmp 0), none⟩,
    ⟨(some 14), .buildSlice 26 4 #[(0, (.const (.int .i64 1))), (1, (.const (.int .i64 2))), (2, (.const (.int .i64 4))), (3, (.const (.int .i64 8)))], none⟩,
    ⟨(some 15), .move (.tmp 5), none⟩,
    ⟨(some 16), .indexAddr 26 (.tmp 14) (.tmp 15), none⟩,
    ⟨(some 17), .load 3 (.tmp 16), none⟩,
    ⟨(some 18), .call ⟨.value (.func 116), #[(.tmp 13), (.tmp 17)], #[3, 3]⟩, none⟩,
    ⟨(some 19), .unOp .not 4 (.tmp 18), none⟩] [0, 4, 5, 19])
  (.cond (.tmp 19) (.exit 1)
  .skip))
  (.seq (.seq (.reg [⟨(some 20), .move (.tmp 4), none⟩,
    ⟨(some 21), .binOp .neq 9 (.tmp 20) (.const (.string ⟨#[]⟩)) 9, none⟩] [0, 4, 5, 21])
  (.cond (.tmp 21) (.reg [⟨(some 22), .move (.tmp 4), none⟩,
    ⟨(some 23), .binOp .add 9 (.tmp 22) (.const (.string ⟨#[43]⟩)) 9, none⟩,
    ⟨(some 4), .assign (.tmp 23), none⟩] [0, 4, 5])
  .skip))
  (.reg [⟨(some 24), .move (.tmp 4), none⟩,
    ⟨(some 25), .buildSlice 119 4 #[(0, (.const (.string ⟨#[100, 97, 121]⟩))), (1, (.const (.string ⟨#[122, 111, 110, 101]⟩))), (2, (.const (.string ⟨#[103, 114, 97, 109, 115]⟩))), (3, (.const (.string ⟨#[112, 97, 105, 100]⟩)))], none⟩,
    ⟨(some 26), .move (.tmp 5), none⟩,
    ⟨(some 27), .indexAddr 119 (.tmp 25) (.tmp 26), none⟩,
    ⟨(some 28), .load 9 (.tmp 27), none⟩,
    ⟨(some 29), .binOp .add 9 (.tmp 24) (.tmp 28) 9, none⟩,
    ⟨(some 4), .assign (.tmp 29), none⟩] [0, 4, 5]))))
  (.reg [⟨(some 11), .move (.tmp 5), none⟩,
    ⟨(some 12), .binOp .add 3 (.tmp 11) (.const (.int .i64 1)) 3, none⟩,
    ⟨(some 5), .assign (.tmp 12), none⟩] [0, 4, 5])))
/-- loop.example/g01062/spec.ChangeText: number 66, params [0] -/
def spec_ChangeText_c : ACode := (.seq (.reg [⟨(some 2), .assign (.const (.string ⟨#[]⟩)), none⟩,
    ⟨(some 3), .assign (.const (.bool false)), none⟩] [0])
  (.seq (.seq (.reg [⟨(some 6), .move (.tmp 0), none⟩,
    ⟨(some 7), .call ⟨.value (.func 102), #[(.tmp 6), (.const (.int .i64 0)), (.const (.int .i64 15))], #[3, 3, 3]⟩, none⟩,
    ⟨(some 8), .unOp .not 4 (.tmp 7), none⟩] [0, 8])
  (.cond (.tmp 8) (.seq (.reg [⟨(some 2), .assign (.const (.string ⟨#[]⟩)), none⟩,
    ⟨(some 3), .assign (.const (.bool false)), none⟩] [2, 3])
  .ret)
  .skip))
  (.seq (.reg [⟨(some 4), .assign (.const (.string ⟨#[]⟩)), none⟩] [0, 4])
  (.seq (.seq (.reg [⟨(some 5), .assign (.const (.int .i64 0)), none⟩] [0, 4, 5])
  (.block 0 (.loop spec_ChangeText_l0)))
  (.seq (.seq (.reg [⟨(some 30), .move (.tmp 4), none⟩,
    ⟨(some 31), .binOp .eql 9 (.tmp 30) (.const (.string ⟨#[]⟩)) 9, none⟩] [4, 31])
  (.cond (.tmp 31) (.seq (.reg [⟨(some 2), .assign (.const (.string ⟨#[110, 111, 110, 101]⟩)), none⟩,
    ⟨(some 3), .assign (.const (.bool true)), none⟩] [2, 3])
  .ret)
  .skip))
  (.seq (.reg [⟨(some 32), .move (.tmp 4), none⟩,
    ⟨(some 2), .assign (.tmp 32), none⟩,
    ⟨(some 3), .assign (.const (.bool true)), none⟩] [2, 3])
  .ret))))))
theorem spec_ChangeText_k : fnOk Try.prog (fun _ => false) 66 = some (spec_ChangeText_c.strip, 33, [.tmp 2, .tmp 3]) := by kernel_rfl
/-- head: [0, 3] -/
def spec_l9Good_l0 : ACode := (.seq (.seq (.reg [⟨(some 4), .move (.tmp 3), none⟩,
    ⟨(some 5), .move (.tmp 0), none⟩,
    ⟨(some 6), .call ⟨.builtin .len, #[(.tmp 5)], #[29]⟩, none⟩,
    ⟨(some 7), .binOp .lss 3 (.tmp 4) (.tmp 6) 3, none⟩] [0, 3, 7])
  (.cond (.tmp 7) .skip
  (.exit 0)))
  (.seq (.block 1 (.seq (.regQ [⟨(some 10), .move (.tmp 0), none⟩,
    ⟨(some 11), .move (.tmp 3), none⟩,
    ⟨(some 12), .indexAddr 29 (.tmp 10) (.tmp 11), none⟩,
    ⟨(some 13), .load 89 (.tmp 12), none⟩,
    ⟨(some 14), .call ⟨.value (.func 120), #[(.tmp 13)], #[89]⟩, none⟩,
    ⟨(some 15), .unOp .not 4 (.tmp 14), none⟩,
    ⟨(some 16), .move (.tmp 15), none⟩,
    ⟨(some 17), .move (.tmp 3), (some (some 16, false))⟩,
    ⟨(some 18), .binOp .gtr 3 (.tmp 17) (.const (.int .i64 0)) 3, (some (some 16, false))⟩,
    ⟨(some 19), .move (.tmp 18), (some (some 16, false))⟩,
    ⟨(some 20), .move (.tmp 0), (some (some 19, true))⟩,
    ⟨(some 21), .move (.tmp 3), (some (some 19, true))⟩,
    ⟨(some 22), .binOp .sub 3 (.tmp 21) (.const (.int .i64 1)) 3, (some (some 19, true))⟩,
    ⟨(some 23), .indexAddr 29 (.tmp 20) (.tmp 22), (some (some 19, true))⟩,
    ⟨(some 24), .load 89 (.tmp 23), (some (some 19, true))⟩,
    ⟨(some 25), .call ⟨.value (.func 121), #[(.tmp 24)], #[89]⟩, (some (some 19, true))⟩,
    ⟨(some 26), .move (.tmp 0), (some (some 19, true))⟩,
    ⟨(some 27), .move (.tmp 3), (some (some 19, true))⟩,
    ⟨(some 28), .indexAddr 29 (.tmp 26) (.tmp 27), (some (some 19, true))⟩,
    ⟨(some 29), .load 89 (.tmp 28), (some (some 19, true))⟩,
    ⟨(some 30), .call ⟨.value (.func 121), #[(.tmp 29)], #[89]⟩, (some (some 19, true))⟩,
    ⟨(some 31), .binOp .geq 3 (.tmp 25) (.tmp 30) 3, (some (some 19, true))⟩,
    ⟨(some 32), .pick (.tmp 19) (.tmp 31) (.const (.bool false)), (some (some 16, false))⟩,
    ⟨(some 33), .pick (.tmp 16) (.const (.bool true)) (.tmp 32), none⟩] [0, 3, 33])
  (.cond (.tmp 33) (.seq (.reg [⟨(some 2), .assign (.const (.bool false)), none⟩] [2])
  .ret)
  .skip)))
  (.reg [⟨(some 8), .move (.tmp 3), none⟩,
    ⟨(some 9), .binOp .add 3 (.tmp 8) (.const (.int .i64 1)) 3, none⟩,
    ⟨(some 3), .assign (.tmp 9), none⟩] [0, 3])))
/-- loop.example/g01062/spec.l9Good: number 67, params [0] -/
def spec_l9Good_c : ACode := (.seq (.reg [⟨(some 2), .assign (.const (.bool false)), none⟩] [0])
  (.seq (.seq (.reg [⟨(some 3), .assign (.const (.int .i64 0)), none⟩] [0, 3])
  (.block 0 (.loop spec_l9Good_l0)))
  (.seq (.reg [⟨(some 34), .move (.tmp 0), none⟩,
    ⟨(some 35), .call ⟨.builtin .len, #[(.tmp 34)], #[29]⟩, none⟩,
    ⟨(some 36), .binOp .leq 3 (.tmp 35) (.const (.int .i64 20)) 3, none⟩,
    ⟨(some 2), .assign (.tmp 36), none⟩] [2])
  .ret)))
theorem spec_l9Good_k : fnOk Try.prog (fun _ => false) 67 = some (spec_l9Good_c.strip, 37, [.tmp 2]) := by kernel_rfl
/-- head: [0, 3] -/
def spec_l10Good_l0 : ACode := (.seq (.seq (.reg [⟨(some 4), .move (.tmp 3), none⟩,
    ⟨(some 5), .move (.tmp 0), none⟩,
    ⟨(some 6), .call ⟨.builtin .len, #[(.tmp 5)], #[31]⟩, none⟩,
    ⟨(some 7), .binOp .lss 3 (.tmp 4) (.tmp 6) 3, none⟩] [0, 3, 7])
  (.cond (.tmp 7) .skip
  (.exit 0)))
  (.seq (.block 1 (.seq (.regQ [⟨(some 10), .move (.tmp 0), none⟩,
    ⟨(some 11), .move (.tmp 3), none⟩,
    ⟨(some 12), .indexAddr 31 (.tmp 10) (.tmp 11), none⟩,
    ⟨(some 13), .load 51 (.tmp 12), none⟩,
    ⟨(some 14), .call ⟨.value (.func 91), #[(.tmp 13)], #[51]⟩, none⟩,
    ⟨(some 15), .unOp .not 4 (.tmp 14), none⟩,
    ⟨(some 16), .move (.tmp 15), none⟩,
    ⟨(some 17), .move (.tmp 3), (some (some 16, false))⟩,
    ⟨(some 18), .binOp .gtr 3 (.tmp 17) (.const (.int .i64 0)) 3, (some (some 16, false))⟩,
    ⟨(some 19), .move (.tmp 18), (some (some 16, false))⟩,
    ⟨(some 20), .move (.tmp 0), (some (some 19, true))⟩,
    ⟨(some 21), .move (.tmp 3), (some (some 19, true))⟩,
    ⟨(some 22), .binOp .sub 3 (.tmp 21) (.const (.int .i64 1)) 3, (some (some 19, true))⟩,
    ⟨(some 23), .indexAddr 31 (.tmp 20) (.tmp 22), (some (some 19, true))⟩,
    ⟨(some 24), .fieldAddr 51 (.tmp 23) 0, (some (some 19, true))⟩,
    ⟨(some 25), .load 3 (.tmp 24), (some (some 19, true))⟩,
    ⟨(some 26), .move (.tmp 0), (some (some 19, true))⟩,
    ⟨(some 27), .move (.tmp 3), (some (some 19, true))⟩,
    ⟨(some 28), .indexAddr 31 (.tmp 26) (.tmp 27), (some (some 19, true))⟩,
    ⟨(some 29), .fieldAddr 51 (.tmp 28) 0, (some (some 19, true))⟩,
    ⟨(some 30), .load 3 (.tmp 29), (some (some 19, true))⟩,
    ⟨(some 31), .binOp .geq 3 (.tmp 25) (.tmp 30) 3, (some (some 19, true))⟩,
    ⟨(some 32), .pick (.tmp 19) (.tmp 31) (.const (.bool false)), (some (some 16, false))⟩,
    ⟨(some 33), .pick (.tmp 16) (.const (.bool true)) (.tmp 32), none⟩] [0, 3, 33])
  (.cond (.tmp 33) (.seq (.reg [⟨(some 2), .assign (.const (.bool false)), none⟩] [2])
  .ret)
  .skip)))
  (.reg [⟨(some 8), .move (.tmp 3), none⟩,
    ⟨(some 9), .binOp .add 3 (.tmp 8) (.const (.int .i64 1)) 3, none⟩,
    ⟨(some 3), .assign (.tmp 9), none⟩] [0, 3])))
/-- loop.example/g01062/spec.l10Good: number 68, params [0] -/
def spec_l10Good_c : ACode := (.seq (.reg [⟨(some 2), .assign (.const (.bool false)), none⟩] [0])
  (.seq (.seq (.reg [⟨(some 3), .assign (.const (.int .i64 0)), none⟩] [0, 3])
  (.block 0 (.loop spec_l10Good_l0)))
  (.seq (.reg [⟨(some 34), .move (.tmp 0), none⟩,
    ⟨(some 35), .call ⟨.builtin .len, #[(.tmp 34)], #[31]⟩, none⟩,
    ⟨(some 36), .binOp .leq 3 (.tmp 35) (.const (.int .i64 10)) 3, none⟩,
    ⟨(some 2), .assign (.tmp 36), none⟩] [2])
  .ret)))
theorem spec_l10Good_k : fnOk Try.prog (fun _ => false) 68 = some (spec_l10Good_c.strip, 37, [.tmp 2]) := by kernel_rfl
/-- loop.example/g01062/spec.l10Route: number 70, params [0, 1] -/
def spec_l10Route_c : ACode := (.seq (.reg [⟨(some 3), .box 51 (.tmp 1), none⟩,
    ⟨(some 4), .assign (.const (.slice none 0 0)), none⟩,
    ⟨(some 5), .assign (.const (.bool false)), none⟩] [0, 3])
  (.seq (.reg [⟨(some 11), .move (.tmp 0), none⟩,
    ⟨(some 12), .fieldAddr 51 (.tmp 3) 5, none⟩,
    ⟨(some 13), .load 3 (.tmp 12), none⟩,
    ⟨(some 14), .fieldAddr 51 (.tmp 3) 7, none⟩,
    ⟨(some 15), .load 3 (.tmp 14), none⟩,
    ⟨(some 16), .fieldAddr 51 (.tmp 3) 6, none⟩,
    ⟨(some 17), .load 3 (.tmp 16), none⟩,
    ⟨(some 18), .call ⟨.value (.func 122), #[(.tmp 11), (.tmp 13), (.tmp 15), (.tmp 17)], #[29, 3, 3, 3]⟩, none⟩,
    ⟨(some 10), .move (.tmp 18), none⟩,
    ⟨(some 19), .extract (.tmp 10) 0, none⟩,
    ⟨(some 20), .extract (.tmp 10) 1, none⟩,
    ⟨(some 6), .assign (.tmp 19), none⟩,
    ⟨(some 7), .assign (.tmp 20), none⟩] [0, 3, 6, 7])
  (.seq (.seq (.reg [⟨(some 21), .move (.tmp 7), none⟩,
    ⟨(some 22), .unOp .not 4 (.tmp 21), none⟩,
    ⟨(some 23), .move (.tmp 22), none⟩,
    ⟨(some 24), .move (.tmp 6), (some (some 23, false))⟩,
    ⟨(some 25), .fieldAddr 51 (.tmp 3) 8, (some (some 23, false))⟩,
    ⟨(some 26), .load 3 (.tmp 25), (some (some 23, false))⟩,
    ⟨(some 27), .binOp .gtr 3 (.tmp 24) (.tmp 26) 3, (some (some 23, false))⟩,
    ⟨(some 28), .pick (.tmp 23) (.const (.bool true)) (.tmp 27), none⟩] [0, 3, 28])
  (.cond (.tmp 28) (.seq (.reg [⟨(some 29), .buildSlice 26 0 #[], none⟩,
    ⟨(some 4), .assign (.tmp 29), none⟩,
    ⟨(some 5), .assign (.const (.bool false)), none⟩] [4, 5])
  .ret)
  .skip))
  (.seq (.reg [⟨(some 31), .move (.tmp 0), none⟩,
    ⟨(some 32), .fieldAddr 51 (.tmp 3) 5, none⟩,
    ⟨(some 33), .load 3 (.tmp 32), none⟩,
    ⟨(some 34), .fieldAddr 51 (.tmp 3) 7, none⟩,
    ⟨(some 35), .load 3 (.tmp 34), none⟩,
    ⟨(some 36), .fieldAddr 51 (.tmp 3) 6, none⟩,
    ⟨(some 37), .load 3 (.tmp 36), none⟩,
    ⟨(some 38), .call ⟨.value (.func 123), #[(.tmp 31), (.tmp 33), (.tmp 35), (.tmp 37)], #[29, 3, 3, 3]⟩, none⟩,
    ⟨(some 30), .move (.tmp 38), none⟩,
    ⟨(some 39), .extract (.tmp 30) 0, none⟩,
    ⟨(some 40), .extract (.tmp 30) 1, none⟩,
    ⟨(some 8), .assign (.tmp 39), none⟩,
    ⟨(some 9), .assign (.tmp 40), none⟩] [8, 9])
  (.seq (.reg [⟨(some 41), .move (.tmp 8), none⟩,
    ⟨(some 42), .move (.tmp 9), none⟩,
    ⟨(some 4), .assign (.tmp 41), none⟩,
    ⟨(some 5), .assign (.tmp 42), none⟩] [4, 5])
  .ret)))))
theorem spec_l10Route_k : fnOk Try.prog (fun _ => false) 70 = some (spec_l10Route_c.strip, 43, [.tmp 4, .tmp 5]) := by kernel_rfl
/-- loop.example/g01062/laws.toMail: number 71, params [0] -/
def laws_toMail_c : ACode := (.seq (.reg [⟨(some 1), .box 91 (.tmp 0), none⟩,
    ⟨(some 2), .alloc 89, none⟩] [1, 2])
  (.seq (.reg [⟨(some 3), .alloc 89, none⟩] [1, 2, 3])
  (.seq (.reg [⟨(some 4), .fieldAddr 91 (.tmp 1) 0, none⟩,
    ⟨(some 5), .load 3 (.tmp 4), none⟩,
    ⟨(some 6), .fieldAddr 89 (.tmp 3) 0, none⟩,
    ⟨none, .store 3 (.tmp 6) (.tmp 5), none⟩] [1, 2, 3])
  (.seq (.reg [⟨(some 7), .fieldAddr 91 (.tmp 1) 1, none⟩,
    ⟨(some 8), .load 3 (.tmp 7), none⟩,
    ⟨(some 9), .fieldAddr 89 (.tmp 3) 1, none⟩,
    ⟨none, .store 3 (.tmp 9) (.tmp 8), none⟩] [1, 2, 3])
  (.seq (.reg [⟨(some 10), .fieldAddr 91 (.tmp 1) 2, none⟩,
    ⟨(some 11), .load 3 (.tmp 10), none⟩,
    ⟨(some 12), .fieldAddr 89 (.tmp 3) 2, none⟩,
    ⟨none, .store 3 (.tmp 12) (.tmp 11), none⟩] [1, 2, 3])
  (.seq (.reg [⟨(some 13), .fieldAddr 91 (.tmp 1) 3, none⟩,
    ⟨(some 14), .load 3 (.tmp 13), none⟩,
    ⟨(some 15), .fieldAddr 89 (.tmp 3) 3, none⟩,
    ⟨none, .store 3 (.tmp 15) (.tmp 14), none⟩] [2, 3])
  (.seq (.reg [⟨(some 16), .load 89 (.tmp 3), none⟩,
    ⟨none, .store 89 (.tmp 2) (.tmp 16), none⟩] [2])
  .ret)))))))
theorem laws_toMail_k : fnOk Try.prog (fun _ => false) 71 = some (laws_toMail_c.strip, 17, [.cell 2 89]) := by kernel_rfl
/-- head: [0, 6, 7, 8] -/
def impl_isTimetable_l0 : ACode := (.seq (.reg [⟨(some 9), .binOp .lss 3 (.tmp 8) (.tmp 7) 3, none⟩] [0, 6, 7, 8, 9])
  (.seq (.cond (.tmp 9) .skip
  (.exit 0))
  (.seq (.block 1 (.seq (.reg [⟨(some 10), .move (.tmp 8), none⟩,
    ⟨(some 11), .indexAddr 29 (.tmp 6) (.tmp 8), none⟩,
    ⟨(some 12), .load 89 (.tmp 11), none⟩,
    ⟨(some 4), .alloc 89, none⟩,
    ⟨(some 3), .assign (.tmp 10), none⟩,
    ⟨none, .store 89 (.tmp 4) (.tmp 12), none⟩] [0, 3, 4, 6, 7, 8])
  (.seq (.seq (.reg [⟨(some 13), .load 89 (.tmp 4), none⟩,
    ⟨(some 14), .call ⟨.value (.func 124), #[(.tmp 13)], #[89]⟩, none⟩,
    ⟨(some 15), .unOp .not 4 (.tmp 14), none⟩] [0, 3, 4, 6, 7, 8, 15])
  (.cond (.tmp 15) (.seq (.reg [⟨(some 2), .assign (.const (.bool false)), none⟩] [2])
  .ret)
  .skip))
  (.seq (.seq (.reg [⟨(some 16), .move (.tmp 3), none⟩,
    ⟨(some 17), .binOp .eql 3 (.tmp 16) (.const (.int .i64 0)) 3, none⟩] [0, 3, 4, 6, 7, 8, 17])
  (.cond (.tmp 17) (.exit 1)
  .skip))
  (.seq (.reg [⟨(some 18), .move (.tmp 0), none⟩,
    ⟨(some 19), .move (.tmp 3), none⟩,
    ⟨(some 20), .binOp .sub 3 (.tmp 19) (.const (.int .i64 1)) 3, none⟩,
    ⟨(some 21), .indexAddr 29 (.tmp 18) (.tmp 20), none⟩,
    ⟨(some 22), .load 89 (.tmp 21), none⟩,
    ⟨(some 5), .alloc 89, none⟩,
    ⟨none, .store 89 (.tmp 5) (.tmp 22), none⟩] [0, 4, 5, 6, 7, 8])
  (.seq (.regT [⟨(some 23), .fieldAddr 89 (.tmp 5) 0, none⟩,
    ⟨(some 24), .load 3 (.tmp 23), none⟩,
    ⟨(some 25), .fieldAddr 89 (.tmp 4) 0, none⟩,
    ⟨(some 26), .load 3 (.tmp 25), none⟩,
    ⟨(some 27), .call ⟨.value (.func 115), #[(.tmp 24), (.tmp 26)], #[3, 3]⟩, none⟩,
    ⟨(some 28), .fieldAddr 89 (.tmp 5) 1, none⟩,
    ⟨(some 29), .load 3 (.tmp 28), none⟩,
    ⟨(some 30), .fieldAddr 89 (.tmp 4) 1, none⟩,
    ⟨(some 31), .load 3 (.tmp 30), none⟩,
    ⟨(some 32), .call ⟨.value (.func 115), #[(.tmp 29), (.tmp 31)], #[3, 3]⟩, none⟩,
    ⟨(some 33), .fieldAddr 89 (.tmp 5) 2, none⟩,
    ⟨(some 34), .load 3 (.tmp 33), none⟩,
    ⟨(some 35), .fieldAddr 89 (.tmp 4) 2, none⟩,
    ⟨(some 36), .load 3 (.tmp 35), none⟩,
    ⟨(some 37), .call ⟨.value (.func 115), #[(.tmp 34), (.tmp 36)], #[3, 3]⟩, none⟩,
    ⟨(some 38), .fieldAddr 89 (.tmp 5) 3, none⟩,
    ⟨(some 39), .load 3 (.tmp 38), none⟩,
    ⟨(some 40), .fieldAddr 89 (.tmp 4) 3, none⟩,
    ⟨(some 41), .load 3 (.tmp 40), none⟩,
    ⟨(some 42), .call ⟨.value (.func 115), #[(.tmp 39), (.tmp 41)], #[3, 3]⟩, none⟩]
    [⟨(some 43), .buildSlice 26 4 #[(0, (.tmp 27)), (1, (.tmp 32)), (2, (.tmp 37)), (3, (.tmp 42))], none⟩,
    ⟨(some 44), .call ⟨.value (.func 114), #[(.tmp 43)], #[26]⟩, none⟩,
    ⟨(some 45), .binOp .geq 3 (.tmp 44) (.const (.int .i64 0)) 3, none⟩] [0, 6, 7, 8, 45])
  (.cond (.tmp 45) (.seq (.reg [⟨(some 2), .assign (.const (.bool false)), none⟩] [2])
  .ret)
  .skip)))))))
  (.reg [⟨(some 46), .binOp .add 3 (.tmp 8) (.const (.int .i64 1)) 3, none⟩,
    ⟨(some 8), .move (.tmp 46), none⟩] [0, 6, 7, 8]))))
/-- loop.example/g01062/impl.isTimetable: number 73, params [0] -/
def impl_isTimetable_c : ACode := (.seq (.reg [⟨(some 2), .assign (.const (.bool false)), none⟩] [0])
  (.seq (.seq (.reg [⟨(some 6), .move (.tmp 0), none⟩,
    ⟨(some 7), .call ⟨.builtin .len, #[(.tmp 6)], #[29]⟩, none⟩,
    ⟨(some 8), .move (.const (.int .i64 0)), none⟩] [0, 6, 7, 8])
  (.block 0 (.loop impl_isTimetable_l0)))
  (.seq (.reg [⟨(some 47), .move (.tmp 0), none⟩,
    ⟨(some 48), .call ⟨.builtin .len, #[(.tmp 47)], #[29]⟩, none⟩,
    ⟨(some 49), .binOp .leq 3 (.tmp 48) (.const (.int .i64 20)) 3, none⟩,
    ⟨(some 2), .assign (.tmp 49), none⟩] [2])
  .ret)))
theorem impl_isTimetable_k : fnOk Try.prog (fun _ => false) 73 = some (impl_isTimetable_c.strip, 50, [.tmp 2]) := by kernel_rfl
/-- head: [0, 5, 6, 7] -/
def impl_areCovers_l0 : ACode := (.seq (.reg [⟨(some 8), .binOp .lss 3 (.tmp 7) (.tmp 6) 3, none⟩] [0, 5, 6, 7, 8])
  (.seq (.cond (.tmp 8) .skip
  (.exit 0))
  (.seq (.block 1 (.seq (.reg [⟨(some 9), .move (.tmp 7), none⟩,
    ⟨(some 10), .indexAddr 31 (.tmp 5) (.tmp 7), none⟩,
    ⟨(some 11), .load 51 (.tmp 10), none⟩,
    ⟨(some 4), .alloc 51, none⟩,
    ⟨(some 3), .assign (.tmp 9), none⟩,
    ⟨none, .store 51 (.tmp 4) (.tmp 11), none⟩] [0, 3, 4, 5, 6, 7])
  (.seq (.regQ [⟨(some 12), .load 51 (.tmp 4), none⟩,
    ⟨(some 13), .call ⟨.value (.func 90), #[(.tmp 12)], #[51]⟩, none⟩,
    ⟨(some 14), .unOp .not 4 (.tmp 13), none⟩,
    ⟨(some 15), .move (.tmp 14), none⟩,
    ⟨(some 16), .move (.tmp 3), (some (some 15, false))⟩,
    ⟨(some 17), .binOp .gtr 3 (.tmp 16) (.const (.int .i64 0)) 3, (some (some 15, false))⟩,
    ⟨(some 18), .move (.tmp 17), (some (some 15, false))⟩,
    ⟨(some 19), .move (.tmp 0), (some (some 18, true))⟩,
    ⟨(some 20), .move (.tmp 3), (some (some 18, true))⟩,
    ⟨(some 21), .binOp .sub 3 (.tmp 20) (.const (.int .i64 1)) 3, (some (some 18, true))⟩,
    ⟨(some 22), .indexAddr 31 (.tmp 19) (.tmp 21), (some (some 18, true))⟩,
    ⟨(some 23), .fieldAddr 51 (.tmp 22) 0, (some (some 18, true))⟩,
    ⟨(some 24), .load 3 (.tmp 23), (some (some 18, true))⟩,
    ⟨(some 25), .fieldAddr 51 (.tmp 4) 0, (some (some 18, true))⟩,
    ⟨(some 26), .load 3 (.tmp 25), (some (some 18, true))⟩,
    ⟨(some 27), .binOp .geq 3 (.tmp 24) (.tmp 26) 3, (some (some 18, true))⟩,
    ⟨(some 28), .pick (.tmp 18) (.tmp 27) (.const (.bool false)), (some (some 15, false))⟩,
    ⟨(some 29), .pick (.tmp 15) (.const (.bool true)) (.tmp 28), none⟩] [0, 5, 6, 7, 29])
  (.cond (.tmp 29) (.seq (.reg [⟨(some 2), .assign (.const (.bool false)), none⟩] [2])
  .ret)
  .skip))))
  (.reg [⟨(some 30), .binOp .add 3 (.tmp 7) (.const (.int .i64 1)) 3, none⟩,
    ⟨(some 7), .move (.tmp 30), none⟩] [0, 5, 6, 7]))))
/-- loop.example/g01062/impl.areCovers: number 74, params [0] -/
def impl_areCovers_c : ACode := (.seq (.reg [⟨(some 2), .assign (.const (.bool false)), none⟩] [0])
  (.seq (.seq (.reg [⟨(some 5), .move (.tmp 0), none⟩,
    ⟨(some 6), .call ⟨.builtin .len, #[(.tmp 5)], #[31]⟩, none⟩,
    ⟨(some 7), .move (.const (.int .i64 0)), none⟩] [0, 5, 6, 7])
  (.block 0 (.loop impl_areCovers_l0)))
  (.seq (.reg [⟨(some 31), .move (.tmp 0), none⟩,
    ⟨(some 32), .call ⟨.builtin .len, #[(.tmp 31)], #[31]⟩, none⟩,
    ⟨(some 33), .binOp .leq 3 (.tmp 32) (.const (.int .i64 10)) 3, none⟩,
    ⟨(some 2), .assign (.tmp 33), none⟩] [2])
  .ret)))
theorem impl_areCovers_k : fnOk Try.prog (fun _ => false) 74 = some (impl_areCovers_c.strip, 34, [.tmp 2]) := by kernel_rfl
/-- loop.example/g01062/impl.routeOn: number 76, params [0, 1] -/
def impl_routeOn_c : ACode := (.seq (.reg [⟨(some 3), .box 51 (.tmp 1), none⟩,
    ⟨(some 4), .assign (.const (.slice none 0 0)), none⟩,
    ⟨(some 5), .assign (.const (.bool false)), none⟩] [0, 3])
  (.seq (.seq (.regF [⟨(some 12), .fieldAddr 51 (.tmp 3) 6, none⟩,
    ⟨(some 16), .fieldAddr 51 (.tmp 3) 8, none⟩]
    [6, 7, 8, 9, 10, 13, 14, 15, 17, 19] [.load 3 (.tmp 12), .load 3 (.tmp 16)] [] []
    [⟨(some 6), .move (.tmp 0), none⟩,
    ⟨(some 7), .fieldAddr 51 (.tmp 3) 5, none⟩,
    ⟨(some 8), .load 3 (.tmp 7), none⟩,
    ⟨(some 9), .fieldAddr 51 (.tmp 3) 7, none⟩,
    ⟨(some 10), .load 3 (.tmp 9), none⟩,
    ⟨(some 11), .call ⟨.value (.func 125), #[(.tmp 6), (.tmp 8), (.tmp 10)], #[29, 3, 3]⟩, none⟩,
    ⟨(some 13), .load 3 (.tmp 12), none⟩,
    ⟨(some 14), .indexAddr 26 (.tmp 11) (.tmp 13), none⟩,
    ⟨(some 15), .load 3 (.tmp 14), none⟩,
    ⟨(some 17), .load 3 (.tmp 16), none⟩,
    ⟨(some 18), .call ⟨.value (.func 101), #[(.tmp 15), (.const (.int .i64 0)), (.tmp 17)], #[3, 3, 3]⟩, none⟩,
    ⟨(some 19), .unOp .not 4 (.tmp 18), none⟩] [0, 3, 19])
  (.cond (.tmp 19) (.seq (.reg [⟨(some 4), .assign (.const (.slice none 0 0)), none⟩,
    ⟨(some 5), .assign (.const (.bool false)), none⟩] [4, 5])
  .ret)
  .skip))
  (.seq (.reg [⟨(some 20), .move (.tmp 0), none⟩,
    ⟨(some 21), .fieldAddr 51 (.tmp 3) 5, none⟩,
    ⟨(some 22), .load 3 (.tmp 21), none⟩,
    ⟨(some 23), .fieldAddr 51 (.tmp 3) 7, none⟩,
    ⟨(some 24), .load 3 (.tmp 23), none⟩,
    ⟨(some 25), .fieldAddr 51 (.tmp 3) 6, none⟩,
    ⟨(some 26), .load 3 (.tmp 25), none⟩,
    ⟨(some 27), .call ⟨.value (.func 126), #[(.tmp 20), (.tmp 22), (.tmp 24), (.tmp 26)], #[29, 3, 3, 3]⟩, none⟩,
    ⟨(some 28), .extract (.tmp 27) 0, none⟩,
    ⟨(some 29), .extract (.tmp 27) 1, none⟩,
    ⟨(some 4), .assign (.tmp 28), none⟩,
    ⟨(some 5), .assign (.tmp 29), none⟩] [4, 5])
  .ret)))
theorem impl_routeOn_k : fnOk Try.prog (fun i => i == 1) 76 = some (impl_routeOn_c.strip, 30, [.tmp 4, .tmp 5]) := by kernel_rfl
/-- slices.ContainsFunc[[]int,int]: number 77, params [0, 1] -/
def slices_ContainsFunc___int_int__c : ACode := (.seq (.reg [⟨(some 4), .assign (.const (.bool false)), none⟩] [0, 1])
  (.seq (.reg [⟨(some 5), .move (.tmp 0), none⟩,
    ⟨(some 6), .move (.tmp 1), none⟩,
    ⟨(some 7), .call ⟨.value (.func 127), #[(.tmp 5), (.tmp 6)], #[26, 87]⟩, none⟩,
    ⟨(some 8), .binOp .geq 3 (.tmp 7) (.const (.int .i64 0)) 3, none⟩,
    ⟨(some 4), .assign (.tmp 8), none⟩] [4])
  .ret))
theorem slices_ContainsFunc___int_int__k : fnOk Try.prog (fun _ => false) 77 = some (slices_ContainsFunc___int_int__c.strip, 9, [.tmp 4]) := by kernel_rfl
/-- loop.example/g01062/impl.CoversVia$1: number 78, params [0] -/
def impl_CoversVia_1_c : ACode := (.seq (.reg [⟨(some 4), .assign (.const (.bool false)), none⟩] [0, 1, 2])
  (.seq (.regQ [⟨(some 5), .load 29 (.tmp 1), none⟩,
    ⟨(some 6), .move (.tmp 0), none⟩,
    ⟨(some 7), .indexAddr 29 (.tmp 5) (.tmp 6), none⟩,
    ⟨(some 8), .fieldAddr 89 (.tmp 7) 2, none⟩,
    ⟨(some 9), .load 3 (.tmp 8), none⟩,
    ⟨(some 10), .load 3 (.tmp 2), none⟩,
    ⟨(some 11), .binOp .eql 3 (.tmp 9) (.tmp 10) 3, none⟩,
    ⟨(some 4), .assign (.tmp 11), none⟩] [4])
  .ret))
theorem impl_CoversVia_1_k : fnOk Try.prog (fun _ => false) 78 = some (impl_CoversVia_1_c.strip, 12, [.tmp 4]) := by kernel_rfl
/-- loop.example/g01062/laws.eqMail: number 79, params [0, 1] -/
def laws_eqMail_c : ACode := (.seq (.reg [⟨(some 2), .box 89 (.tmp 0), none⟩,
    ⟨(some 3), .box 89 (.tmp 1), none⟩,
    ⟨(some 4), .assign (.const (.bool false)), none⟩] [2, 3])
  (.seq (.seq (.reg [⟨(some 5), .fieldAddr 89 (.tmp 2) 0, none⟩,
    ⟨(some 6), .load 3 (.tmp 5), none⟩,
    ⟨(some 7), .fieldAddr 89 (.tmp 3) 0, none⟩,
    ⟨(some 8), .load 3 (.tmp 7), none⟩,
    ⟨(some 9), .binOp .neq 3 (.tmp 6) (.tmp 8) 3, none⟩] [2, 3, 9])
  (.cond (.tmp 9) (.seq (.reg [⟨(some 4), .assign (.const (.bool false)), none⟩] [4])
  .ret)
  .skip))
  (.seq (.seq (.reg [⟨(some 10), .fieldAddr 89 (.tmp 2) 1, none⟩,
    ⟨(some 11), .load 3 (.tmp 10), none⟩,
    ⟨(some 12), .fieldAddr 89 (.tmp 3) 1, none⟩,
    ⟨(some 13), .load 3 (.tmp 12), none⟩,
    ⟨(some 14), .binOp .neq 3 (.tmp 11) (.tmp 13) 3, none⟩] [2, 3, 14])
  (.cond (.tmp 14) (.seq (.reg [⟨(some 4), .assign (.const (.bool false)), none⟩] [4])
  .ret)
  .skip))
  (.seq (.seq (.reg [⟨(some 15), .fieldAddr 89 (.tmp 2) 2, none⟩,
    ⟨(some 16), .load 3 (.tmp 15), none⟩,
    ⟨(some 17), .fieldAddr 89 (.tmp 3) 2, none⟩,
    ⟨(some 18), .load 3 (.tmp 17), none⟩,
    ⟨(some 19), .binOp .neq 3 (.tmp 16) (.tmp 18) 3, none⟩] [2, 3, 19])
  (.cond (.tmp 19) (.seq (.reg [⟨(some 4), .assign (.const (.bool false)), none⟩] [4])
  .ret)
  .skip))
  (.seq (.seq (.reg [⟨(some 20), .fieldAddr 89 (.tmp 2) 3, none⟩,
    ⟨(some 21), .load 3 (.tmp 20), none⟩,
    ⟨(some 22), .fieldAddr 89 (.tmp 3) 3, none⟩,
    ⟨(some 23), .load 3 (.tmp 22), none⟩,
    ⟨(some 24), .binOp .neq 3 (.tmp 21) (.tmp 23) 3, none⟩] [24])
  (.cond (.tmp 24) (.seq (.reg [⟨(some 4), .assign (.const (.bool false)), none⟩] [4])
  .ret)
  .skip))
  (.seq (.reg [⟨(some 4), .assign (.const (.bool true)), none⟩] [4])
  .ret))))))
theorem laws_eqMail_k : fnOk Try.prog (fun _ => false) 79 = some (laws_eqMail_c.strip, 25, [.tmp 4]) := by kernel_rfl
/-- loop.example/g01062/spec.l10Fault: number 82, params [0, 1, 2] -/
def spec_l10Fault_c : ACode := (.seq (.reg [⟨(some 5), .box 51 (.tmp 2), none⟩,
    ⟨(some 6), .assign (.const (.int .i64 0)), none⟩] [0, 1, 5])
  (.seq (.reg [⟨(some 9), .move (.tmp 0), none⟩,
    ⟨(some 10), .fieldAddr 51 (.tmp 5) 1, none⟩,
    ⟨(some 11), .load 3 (.tmp 10), none⟩,
    ⟨(some 12), .fieldAddr 51 (.tmp 5) 2, none⟩,
    ⟨(some 13), .load 3 (.tmp 12), none⟩,
    ⟨(some 14), .fieldAddr 51 (.tmp 5) 3, none⟩,
    ⟨(some 15), .load 3 (.tmp 14), none⟩,
    ⟨(some 16), .call ⟨.value (.func 93), #[(.tmp 9), (.tmp 11), (.tmp 13), (.tmp 15)], #[43, 3, 3, 3]⟩, none⟩,
    ⟨(some 7), .assign (.tmp 16), none⟩] [1, 5, 7])
  (.seq (.regF [⟨(some 23), .fieldAddr 51 (.tmp 5) 6, none⟩]
    [17, 18, 19, 20, 21, 24, 25, 26] [.load 3 (.tmp 23)] [] []
    [⟨(some 17), .move (.tmp 1), none⟩,
    ⟨(some 18), .fieldAddr 51 (.tmp 5) 5, none⟩,
    ⟨(some 19), .load 3 (.tmp 18), none⟩,
    ⟨(some 20), .fieldAddr 51 (.tmp 5) 7, none⟩,
    ⟨(some 21), .load 3 (.tmp 20), none⟩,
    ⟨(some 22), .call ⟨.value (.func 130), #[(.tmp 17), (.tmp 19), (.tmp 21)], #[29, 3, 3]⟩, none⟩,
    ⟨(some 24), .load 3 (.tmp 23), none⟩,
    ⟨(some 25), .indexAddr 26 (.tmp 22) (.tmp 24), none⟩,
    ⟨(some 26), .load 3 (.tmp 25), none⟩,
    ⟨(some 8), .assign (.tmp 26), none⟩] [5, 7, 8])
  (.seq (.block 0 (.seq (.reg [⟨(some 28), .move (.tmp 7), none⟩,
    ⟨(some 29), .binOp .eql 3 (.tmp 28) (.const (.int .i64 0)) 3, none⟩,
    ⟨(some 27), .assign (.tmp 29), none⟩] [5, 7, 8, 27])
  (.cond (.tmp 27) (.seq (.reg [⟨(some 6), .assign (.const (.int .i64 1)), none⟩] [6])
  .ret)
  (.seq (.reg [⟨(some 31), .fieldAddr 51 (.tmp 5) 4, none⟩,
    ⟨(some 32), .load 3 (.tmp 31), none⟩,
    ⟨(some 33), .move (.tmp 7), none⟩,
    ⟨(some 34), .binOp .lss 3 (.tmp 32) (.tmp 33) 3, none⟩,
    ⟨(some 30), .assign (.tmp 34), none⟩] [5, 7, 8, 30])
  (.cond (.tmp 30) (.seq (.reg [⟨(some 6), .assign (.const (.int .i64 2)), none⟩] [6])
  .ret)
  (.seq (.reg [⟨(some 36), .fieldAddr 51 (.tmp 5) 4, none⟩,
    ⟨(some 37), .load 3 (.tmp 36), none⟩,
    ⟨(some 38), .move (.tmp 7), none⟩,
    ⟨(some 39), .binOp .mul 3 (.const (.int .i64 2)) (.tmp 38) 3, none⟩,
    ⟨(some 40), .binOp .gtr 3 (.tmp 37) (.tmp 39) 3, none⟩,
    ⟨(some 35), .assign (.tmp 40), none⟩] [5, 8, 35])
  (.cond (.tmp 35) (.seq (.reg [⟨(some 6), .assign (.const (.int .i64 3)), none⟩] [6])
  .ret)
  (.seq (.reg [⟨(some 42), .move (.tmp 8), none⟩,
    ⟨(some 43), .binOp .eql 3 (.tmp 42) (.const (.int .i64 10000)) 3, none⟩,
    ⟨(some 41), .assign (.tmp 43), none⟩] [5, 8, 41])
  (.cond (.tmp 41) (.seq (.reg [⟨(some 6), .assign (.const (.int .i64 4)), none⟩] [6])
  .ret)
  (.seq (.reg [⟨(some 45), .move (.tmp 8), none⟩,
    ⟨(some 46), .fieldAddr 51 (.tmp 5) 8, none⟩,
    ⟨(some 47), .load 3 (.tmp 46), none⟩,
    ⟨(some 48), .binOp .gtr 3 (.tmp 45) (.tmp 47) 3, none⟩,
    ⟨(some 44), .assign (.tmp 48), none⟩] [44])
  (.cond (.tmp 44) (.seq (.reg [⟨(some 6), .assign (.const (.int .i64 5)), none⟩] [6])
  .ret)
  .skip)))))))))))
  (.seq (.reg [⟨(some 6), .assign (.const (.int .i64 0)), none⟩] [6])
  .ret)))))
theorem spec_l10Fault_k : fnOk Try.prog (fun i => i == 2) 82 = some (spec_l10Fault_c.strip, 49, [.tmp 6]) := by kernel_rfl
/-- loop.example/g01062/impl.faultOf: number 85, params [0, 1, 2] -/
def impl_faultOf_c : ACode := (.seq (.reg [⟨(some 5), .box 51 (.tmp 2), none⟩,
    ⟨(some 6), .assign (.const (.int .i64 0)), none⟩] [0, 1, 5])
  (.seq (.reg [⟨(some 11), .move (.tmp 0), none⟩,
    ⟨(some 12), .fieldAddr 51 (.tmp 5) 1, none⟩,
    ⟨(some 13), .load 3 (.tmp 12), none⟩,
    ⟨(some 14), .fieldAddr 51 (.tmp 5) 2, none⟩,
    ⟨(some 15), .load 3 (.tmp 14), none⟩,
    ⟨(some 16), .fieldAddr 51 (.tmp 5) 3, none⟩,
    ⟨(some 17), .load 3 (.tmp 16), none⟩,
    ⟨(some 18), .call ⟨.value (.func 92), #[(.tmp 11), (.tmp 13), (.tmp 15), (.tmp 17)], #[43, 3, 3, 3]⟩, none⟩,
    ⟨(some 10), .move (.tmp 18), none⟩,
    ⟨(some 19), .extract (.tmp 10) 0, none⟩,
    ⟨(some 20), .extract (.tmp 10) 1, none⟩,
    ⟨(some 7), .assign (.tmp 19), none⟩,
    ⟨(some 8), .assign (.tmp 20), none⟩] [1, 5, 7, 8])
  (.seq (.regF [⟨(some 27), .fieldAddr 51 (.tmp 5) 6, none⟩]
    [21, 22, 23, 24, 25, 28, 29, 30] [.load 3 (.tmp 27)] [] []
    [⟨(some 21), .move (.tmp 1), none⟩,
    ⟨(some 22), .fieldAddr 51 (.tmp 5) 5, none⟩,
    ⟨(some 23), .load 3 (.tmp 22), none⟩,
    ⟨(some 24), .fieldAddr 51 (.tmp 5) 7, none⟩,
    ⟨(some 25), .load 3 (.tmp 24), none⟩,
    ⟨(some 26), .call ⟨.value (.func 125), #[(.tmp 21), (.tmp 23), (.tmp 25)], #[29, 3, 3]⟩, none⟩,
    ⟨(some 28), .load 3 (.tmp 27), none⟩,
    ⟨(some 29), .indexAddr 26 (.tmp 26) (.tmp 28), none⟩,
    ⟨(some 30), .load 3 (.tmp 29), none⟩,
    ⟨(some 9), .assign (.tmp 30), none⟩] [5, 7, 8, 9])
  (.seq (.block 0 (.seq (.reg [⟨(some 32), .move (.tmp 8), none⟩,
    ⟨(some 33), .unOp .not 4 (.tmp 32), none⟩,
    ⟨(some 31), .assign (.tmp 33), none⟩] [5, 7, 9, 31])
  (.cond (.tmp 31) (.seq (.reg [⟨(some 6), .assign (.const (.int .i64 1)), none⟩] [6])
  .ret)
  (.seq (.reg [⟨(some 35), .fieldAddr 51 (.tmp 5) 4, none⟩,
    ⟨(some 36), .load 3 (.tmp 35), none⟩,
    ⟨(some 37), .move (.tmp 7), none⟩,
    ⟨(some 38), .binOp .lss 3 (.tmp 36) (.tmp 37) 3, none⟩,
    ⟨(some 34), .assign (.tmp 38), none⟩] [5, 7, 9, 34])
  (.cond (.tmp 34) (.seq (.reg [⟨(some 6), .assign (.const (.int .i64 2)), none⟩] [6])
  .ret)
  (.seq (.reg [⟨(some 40), .fieldAddr 51 (.tmp 5) 4, none⟩,
    ⟨(some 41), .load 3 (.tmp 40), none⟩,
    ⟨(some 42), .move (.tmp 7), none⟩,
    ⟨(some 43), .binOp .mul 3 (.const (.int .i64 2)) (.tmp 42) 3, none⟩,
    ⟨(some 44), .binOp .gtr 3 (.tmp 41) (.tmp 43) 3, none⟩,
    ⟨(some 39), .assign (.tmp 44), none⟩] [5, 9, 39])
  (.cond (.tmp 39) (.seq (.reg [⟨(some 6), .assign (.const (.int .i64 3)), none⟩] [6])
  .ret)
  (.seq (.reg [⟨(some 46), .move (.tmp 9), none⟩,
    ⟨(some 47), .binOp .lss 3 (.tmp 46) (.const (.int .i64 0)) 3, none⟩,
    ⟨(some 45), .assign (.tmp 47), none⟩] [5, 9, 45])
  (.cond (.tmp 45) (.seq (.reg [⟨(some 6), .assign (.const (.int .i64 4)), none⟩] [6])
  .ret)
  (.seq (.reg [⟨(some 49), .move (.tmp 9), none⟩,
    ⟨(some 50), .fieldAddr 51 (.tmp 5) 8, none⟩,
    ⟨(some 51), .load 3 (.tmp 50), none⟩,
    ⟨(some 52), .binOp .gtr 3 (.tmp 49) (.tmp 51) 3, none⟩,
    ⟨(some 48), .assign (.tmp 52), none⟩] [48])
  (.cond (.tmp 48) (.seq (.reg [⟨(some 6), .assign (.const (.int .i64 5)), none⟩] [6])
  .ret)
  .skip)))))))))))
  (.seq (.reg [⟨(some 6), .assign (.const (.int .i64 0)), none⟩] [6])
  .ret)))))
theorem impl_faultOf_k : fnOk Try.prog (fun i => i == 2) 85 = some (impl_faultOf_c.strip, 53, [.tmp 6]) := by kernel_rfl
/-- head: [0, 1, 2, 13, 14, 15] -/
def impl_endOfRoute_l0 : ACode := (.seq (.reg [⟨(some 16), .binOp .lss 3 (.tmp 15) (.tmp 14) 3, none⟩] [0, 1, 2, 13, 14, 15, 16])
  (.seq (.cond (.tmp 16) .skip
  (.exit 0))
  (.seq (.block 1 (.seq (.reg [⟨(some 17), .indexAddr 26 (.tmp 13) (.tmp 15), none⟩,
    ⟨(some 18), .load 3 (.tmp 17), none⟩,
    ⟨(some 12), .assign (.tmp 18), none⟩] [0, 1, 2, 12, 13, 14, 15])
  (.seq (.seq (.reg [⟨(some 19), .move (.tmp 12), none⟩,
    ⟨(some 20), .move (.tmp 0), none⟩,
    ⟨(some 21), .call ⟨.builtin .len, #[(.tmp 20)], #[29]⟩, none⟩,
    ⟨(some 22), .binOp .sub 3 (.tmp 21) (.const (.int .i64 1)) 3, none⟩,
    ⟨(some 23), .call ⟨.value (.func 101), #[(.tmp 19), (.const (.int .i64 0)), (.tmp 22)], #[3, 3, 3]⟩, none⟩,
    ⟨(some 24), .unOp .not 4 (.tmp 23), none⟩,
    ⟨(some 25), .move (.tmp 24), none⟩,
    ⟨(some 26), .move (.tmp 0), (some (some 25, false))⟩,
    ⟨(some 27), .move (.tmp 12), (some (some 25, false))⟩,
    ⟨(some 28), .indexAddr 29 (.tmp 26) (.tmp 27), (some (some 25, false))⟩,
    ⟨(some 29), .fieldAddr 89 (.tmp 28) 1, (some (some 25, false))⟩,
    ⟨(some 30), .load 3 (.tmp 29), (some (some 25, false))⟩,
    ⟨(some 31), .move (.tmp 1), (some (some 25, false))⟩,
    ⟨(some 32), .binOp .neq 3 (.tmp 30) (.tmp 31) 3, (some (some 25, false))⟩,
    ⟨(some 33), .pick (.tmp 25) (.const (.bool true)) (.tmp 32), none⟩,
    ⟨(some 34), .move (.tmp 33), none⟩,
    ⟨(some 35), .move (.tmp 0), (some (some 34, false))⟩,
    ⟨(some 36), .move (.tmp 12), (some (some 34, false))⟩,
    ⟨(some 37), .indexAddr 29 (.tmp 35) (.tmp 36), (some (some 34, false))⟩,
    ⟨(some 38), .fieldAddr 89 (.tmp 37) 0, (some (some 34, false))⟩,
    ⟨(some 39), .load 3 (.tmp 38), (some (some 34, false))⟩,
    ⟨(some 40), .move (.tmp 2), (some (some 34, false))⟩,
    ⟨(some 41), .binOp .lss 3 (.tmp 39) (.tmp 40) 3, (some (some 34, false))⟩,
    ⟨(some 42), .pick (.tmp 34) (.const (.bool true)) (.tmp 41), none⟩] [0, 12, 13, 14, 15, 42])
  (.cond (.tmp 42) (.seq (.reg [⟨(some 8), .assign (.const (.int .i64 0)), none⟩,
    ⟨(some 9), .assign (.const (.int .i64 0)), none⟩,
    ⟨(some 10), .assign (.const (.bool false)), none⟩] [8, 9, 10])
  .ret)
  .skip))
  (.regQ [⟨(some 43), .move (.tmp 0), none⟩,
    ⟨(some 44), .move (.tmp 12), none⟩,
    ⟨(some 45), .indexAddr 29 (.tmp 43) (.tmp 44), none⟩,
    ⟨(some 46), .fieldAddr 89 (.tmp 45) 2, none⟩,
    ⟨(some 47), .load 3 (.tmp 46), none⟩,
    ⟨(some 48), .move (.tmp 0), none⟩,
    ⟨(some 49), .move (.tmp 12), none⟩,
    ⟨(some 50), .indexAddr 29 (.tmp 48) (.tmp 49), none⟩,
    ⟨(some 51), .fieldAddr 89 (.tmp 50) 3, none⟩,
    ⟨(some 52), .load 3 (.tmp 51), none⟩,
    ⟨(some 1), .assign (.tmp 47), none⟩,
    ⟨(some 2), .assign (.tmp 52), none⟩] [0, 1, 2, 13, 14, 15]))))
  (.reg [⟨(some 53), .binOp .add 3 (.tmp 15) (.const (.int .i64 1)) 3, none⟩,
    ⟨(some 15), .move (.tmp 53), none⟩] [0, 1, 2, 13, 14, 15]))))
/-- loop.example/g01062/impl.endOfRoute: number 96, params [0, 1, 2, 3] -/
def impl_endOfRoute_c : ACode := (.seq (.reg [⟨(some 8), .assign (.const (.int .i64 0)), none⟩,
    ⟨(some 9), .assign (.const (.int .i64 0)), none⟩,
    ⟨(some 10), .assign (.const (.bool false)), none⟩] [0, 1, 2, 3])
  (.seq (.seq (.reg [⟨(some 13), .move (.tmp 3), none⟩,
    ⟨(some 14), .call ⟨.builtin .len, #[(.tmp 13)], #[26]⟩, none⟩,
    ⟨(some 15), .move (.const (.int .i64 0)), none⟩] [0, 1, 2, 13, 14, 15])
  (.block 0 (.loop impl_endOfRoute_l0)))
  (.seq (.reg [⟨(some 54), .move (.tmp 1), none⟩,
    ⟨(some 55), .move (.tmp 2), none⟩,
    ⟨(some 8), .assign (.tmp 54), none⟩,
    ⟨(some 9), .assign (.tmp 55), none⟩,
    ⟨(some 10), .assign (.const (.bool true)), none⟩] [8, 9, 10])
  .ret)))
theorem impl_endOfRoute_k : fnOk Try.prog (fun _ => false) 96 = some (impl_endOfRoute_c.strip, 56, [.tmp 8, .tmp 9, .tmp 10]) := by kernel_rfl
/-- head: [0, 1, 2, 3, 10, 13, 14, 15] -/
def impl_latestLeave_l0 : ACode := (.seq (.reg [⟨(some 16), .binOp .lss 3 (.tmp 15) (.tmp 14) 3, none⟩] [0, 1, 2, 3, 10, 13, 14, 15, 16])
  (.seq (.cond (.tmp 16) .skip
  (.exit 0))
  (.seq (.block 1 (.seq (.reg [⟨(some 17), .indexAddr 29 (.tmp 13) (.tmp 15), none⟩,
    ⟨(some 18), .load 89 (.tmp 17), none⟩,
    ⟨(some 12), .alloc 89, none⟩,
    ⟨none, .store 89 (.tmp 12) (.tmp 18), none⟩] [0, 1, 2, 3, 10, 12, 13, 14, 15])
  (.seq (.reg [⟨(some 19), .fieldAddr 89 (.tmp 12) 1, none⟩,
    ⟨(some 20), .load 3 (.tmp 19), none⟩,
    ⟨(some 21), .move (.tmp 1), none⟩,
    ⟨(some 22), .binOp .eql 3 (.tmp 20) (.tmp 21) 3, none⟩,
    ⟨(some 23), .move (.tmp 22), none⟩,
    ⟨(some 24), .move (.tmp 0), (some (some 23, true))⟩,
    ⟨(some 25), .fieldAddr 89 (.tmp 12) 2, (some (some 23, true))⟩,
    ⟨(some 26), .load 3 (.tmp 25), (some (some 23, true))⟩,
    ⟨(some 27), .fieldAddr 89 (.tmp 12) 3, (some (some 23, true))⟩,
    ⟨(some 28), .load 3 (.tmp 27), (some (some 23, true))⟩,
    ⟨(some 29), .call ⟨.value (.func 125), #[(.tmp 24), (.tmp 26), (.tmp 28)], #[29, 3, 3]⟩, (some (some 23, true))⟩,
    ⟨(some 30), .move (.tmp 2), (some (some 23, true))⟩,
    ⟨(some 31), .indexAddr 26 (.tmp 29) (.tmp 30), (some (some 23, true))⟩,
    ⟨(some 32), .load 3 (.tmp 31), (some (some 23, true))⟩,
    ⟨(some 33), .move (.tmp 3), (some (some 23, true))⟩,
    ⟨(some 34), .call ⟨.value (.func 101), #[(.tmp 32), (.const (.int .i64 0)), (.tmp 33)], #[3, 3, 3]⟩, (some (some 23, true))⟩,
    ⟨(some 35), .pick (.tmp 23) (.tmp 34) (.const (.bool false)), none⟩] [0, 1, 2, 3, 10, 12, 13, 14, 15, 35])
  (.cond (.tmp 35) (.reg [⟨(some 36), .move (.tmp 10), none⟩,
    ⟨(some 37), .fieldAddr 89 (.tmp 12) 0, none⟩,
    ⟨(some 38), .load 3 (.tmp 37), none⟩,
    ⟨(some 39), .call ⟨.builtin .max, #[(.tmp 36), (.tmp 38)], #[3, 3]⟩, none⟩,
    ⟨(some 10), .assign (.tmp 39), none⟩] [0, 1, 2, 3, 10, 13, 14, 15])
  .skip))))
  (.reg [⟨(some 40), .binOp .add 3 (.tmp 15) (.const (.int .i64 1)) 3, none⟩,
    ⟨(some 15), .move (.tmp 40), none⟩] [0, 1, 2, 3, 10, 13, 14, 15]))))
/-- loop.example/g01062/impl.latestLeave: number 97, params [0, 1, 2, 3] -/
def impl_latestLeave_c : ACode := (.seq (.reg [⟨(some 8), .assign (.const (.int .i64 0)), none⟩,
    ⟨(some 9), .assign (.const (.bool false)), none⟩] [0, 1, 2, 3])
  (.seq (.reg [⟨(some 10), .assign (.const (.int .i64 (-1))), none⟩] [0, 1, 2, 3, 10])
  (.seq (.seq (.reg [⟨(some 13), .move (.tmp 0), none⟩,
    ⟨(some 14), .call ⟨.builtin .len, #[(.tmp 13)], #[29]⟩, none⟩,
    ⟨(some 15), .move (.const (.int .i64 0)), none⟩] [0, 1, 2, 3, 10, 13, 14, 15])
  (.block 0 (.loop impl_latestLeave_l0)))
  (.seq (.reg [⟨(some 41), .move (.tmp 10), none⟩,
    ⟨(some 42), .call ⟨.builtin .max, #[(.tmp 41), (.const (.int .i64 0))], #[3, 3]⟩, none⟩,
    ⟨(some 43), .move (.tmp 10), none⟩,
    ⟨(some 44), .binOp .geq 3 (.tmp 43) (.const (.int .i64 0)) 3, none⟩,
    ⟨(some 8), .assign (.tmp 42), none⟩,
    ⟨(some 9), .assign (.tmp 44), none⟩] [8, 9])
  .ret))))
theorem impl_latestLeave_k : fnOk Try.prog (fun _ => false) 97 = some (impl_latestLeave_c.strip, 45, [.tmp 8, .tmp 9]) := by kernel_rfl
/-- head: [0, 1, 2, 3, 10] -/
def spec_LatestLeave_l0 : ACode := (.seq (.seq (.reg [⟨(some 30), .move (.tmp 10), none⟩,
    ⟨(some 31), .binOp .geq 3 (.tmp 30) (.const (.int .i64 0)) 3, none⟩] [0, 1, 2, 3, 10, 31])
  (.cond (.tmp 31) .skip
  (.exit 0)))
  (.seq (.block 1 (.seq (.reg [⟨(some 34), .move (.tmp 0), none⟩,
    ⟨(some 35), .move (.tmp 10), none⟩,
    ⟨(some 36), .indexAddr 29 (.tmp 34) (.tmp 35), none⟩,
    ⟨(some 37), .load 89 (.tmp 36), none⟩,
    ⟨(some 11), .alloc 89, none⟩,
    ⟨none, .store 89 (.tmp 11) (.tmp 37), none⟩] [0, 1, 2, 3, 10, 11])
  (.seq (.reg [⟨(some 38), .fieldAddr 89 (.tmp 11) 1, none⟩,
    ⟨(some 39), .load 3 (.tmp 38), none⟩,
    ⟨(some 40), .move (.tmp 1), none⟩,
    ⟨(some 41), .binOp .eql 3 (.tmp 39) (.tmp 40) 3, none⟩,
    ⟨(some 42), .move (.tmp 41), none⟩,
    ⟨(some 43), .fieldAddr 89 (.tmp 11) 3, (some (some 42, true))⟩,
    ⟨(some 44), .load 3 (.tmp 43), (some (some 42, true))⟩,
    ⟨(some 45), .move (.tmp 3), (some (some 42, true))⟩,
    ⟨(some 46), .binOp .leq 3 (.tmp 44) (.tmp 45) 3, (some (some 42, true))⟩,
    ⟨(some 47), .pick (.tmp 42) (.tmp 46) (.const (.bool false)), none⟩,
    ⟨(some 48), .move (.tmp 47), none⟩,
    ⟨(some 49), .move (.tmp 0), (some (some 48, true))⟩,
    ⟨(some 50), .fieldAddr 89 (.tmp 11) 2, (some (some 48, true))⟩,
    ⟨(some 51), .load 3 (.tmp 50), (some (some 48, true))⟩,
    ⟨(some 52), .fieldAddr 89 (.tmp 11) 3, (some (some 48, true))⟩,
    ⟨(some 53), .load 3 (.tmp 52), (some (some 48, true))⟩,
    ⟨(some 54), .call ⟨.value (.func 130), #[(.tmp 49), (.tmp 51), (.tmp 53)], #[29, 3, 3]⟩, (some (some 48, true))⟩,
    ⟨(some 55), .move (.tmp 2), (some (some 48, true))⟩,
    ⟨(some 56), .indexAddr 26 (.tmp 54) (.tmp 55), (some (some 48, true))⟩,
    ⟨(some 57), .load 3 (.tmp 56), (some (some 48, true))⟩,
    ⟨(some 58), .move (.tmp 3), (some (some 48, true))⟩,
    ⟨(some 59), .binOp .leq 3 (.tmp 57) (.tmp 58) 3, (some (some 48, true))⟩,
    ⟨(some 60), .pick (.tmp 48) (.tmp 59) (.const (.bool false)), none⟩] [0, 1, 2, 3, 10, 11, 60])
  (.cond (.tmp 60) (.seq (.reg [⟨(some 61), .fieldAddr 89 (.tmp 11) 0, none⟩,
    ⟨(some 62), .load 3 (.tmp 61), none⟩,
    ⟨(some 8), .assign (.tmp 62), none⟩,
    ⟨(some 9), .assign (.const (.bool true)), none⟩] [8, 9])
  .ret)
  .skip))))
  (.reg [⟨(some 32), .move (.tmp 10), none⟩,
    ⟨(some 33), .binOp .sub 3 (.tmp 32) (.const (.int .i64 1)) 3, none⟩,
    ⟨(some 10), .assign (.tmp 33), none⟩] [0, 1, 2, 3, 10])))
/-- loop.example/g01062/spec.LatestLeave: number 98, params [0, 1, 2, 3] -/
def spec_LatestLeave_c : ACode := (.seq (.reg [⟨(some 8), .assign (.const (.int .i64 0)), none⟩,
    ⟨(some 9), .assign (.const (.bool false)), none⟩] [0, 1, 2, 3])
  (.seq (.seq (.reg [⟨(some 12), .move (.tmp 0), none⟩,
    ⟨(some 13), .move (.tmp 1), none⟩,
    ⟨(some 14), .move (.tmp 3), none⟩,
    ⟨(some 15), .call ⟨.value (.func 144), #[(.tmp 12), (.tmp 13), (.tmp 14)], #[29, 3, 3]⟩, none⟩,
    ⟨(some 16), .unOp .not 4 (.tmp 15), none⟩,
    ⟨(some 17), .move (.tmp 16), none⟩,
    ⟨(some 18), .move (.tmp 2), (some (some 17, false))⟩,
    ⟨(some 19), .call ⟨.value (.func 69), #[(.tmp 18)], #[3]⟩, (some (some 17, false))⟩,
    ⟨(some 20), .unOp .not 4 (.tmp 19), (some (some 17, false))⟩,
    ⟨(some 21), .pick (.tmp 17) (.const (.bool true)) (.tmp 20), none⟩,
    ⟨(some 22), .move (.tmp 21), none⟩,
    ⟨(some 23), .move (.tmp 1), (some (some 22, false))⟩,
    ⟨(some 24), .move (.tmp 2), (some (some 22, false))⟩,
    ⟨(some 25), .binOp .eql 3 (.tmp 23) (.tmp 24) 3, (some (some 22, false))⟩,
    ⟨(some 26), .pick (.tmp 22) (.const (.bool true)) (.tmp 25), none⟩] [0, 1, 2, 3, 26])
  (.cond (.tmp 26) (.seq (.reg [⟨(some 8), .assign (.const (.int .i64 0)), none⟩,
    ⟨(some 9), .assign (.const (.bool false)), none⟩] [8, 9])
  .ret)
  .skip))
  (.seq (.seq (.reg [⟨(some 27), .move (.tmp 0), none⟩,
    ⟨(some 28), .call ⟨.builtin .len, #[(.tmp 27)], #[29]⟩, none⟩,
    ⟨(some 29), .binOp .sub 3 (.tmp 28) (.const (.int .i64 1)) 3, none⟩,
    ⟨(some 10), .assign (.tmp 29), none⟩] [0, 1, 2, 3, 10])
  (.block 0 (.loop spec_LatestLeave_l0)))
  (.seq (.reg [⟨(some 8), .assign (.const (.int .i64 0)), none⟩,
    ⟨(some 9), .assign (.const (.bool false)), none⟩] [8, 9])
  .ret))))
theorem spec_LatestLeave_k : fnOk Try.prog (fun _ => false) 98 = some (spec_LatestLeave_c.strip, 63, [.tmp 8, .tmp 9]) := by kernel_rfl
/-- loop.example/g01062/spec.l9One: number 120, params [0] -/
def spec_l9One_c : ACode := (.seq (.reg [⟨(some 1), .box 89 (.tmp 0), none⟩,
    ⟨(some 2), .assign (.const (.bool false)), none⟩] [1])
  (.seq (.reg [⟨(some 3), .fieldAddr 89 (.tmp 1) 1, none⟩,
    ⟨(some 4), .load 3 (.tmp 3), none⟩,
    ⟨(some 5), .call ⟨.value (.func 69), #[(.tmp 4)], #[3]⟩, none⟩,
    ⟨(some 6), .move (.tmp 5), none⟩,
    ⟨(some 7), .fieldAddr 89 (.tmp 1) 2, (some (some 6, true))⟩,
    ⟨(some 8), .load 3 (.tmp 7), (some (some 6, true))⟩,
    ⟨(some 9), .call ⟨.value (.func 69), #[(.tmp 8)], #[3]⟩, (some (some 6, true))⟩,
    ⟨(some 10), .pick (.tmp 6) (.tmp 9) (.const (.bool false)), none⟩,
    ⟨(some 11), .move (.tmp 10), none⟩,
    ⟨(some 12), .fieldAddr 89 (.tmp 1) 1, (some (some 11, true))⟩,
    ⟨(some 13), .load 3 (.tmp 12), (some (some 11, true))⟩,
    ⟨(some 14), .fieldAddr 89 (.tmp 1) 2, (some (some 11, true))⟩,
    ⟨(some 15), .load 3 (.tmp 14), (some (some 11, true))⟩,
    ⟨(some 16), .binOp .neq 3 (.tmp 13) (.tmp 15) 3, (some (some 11, true))⟩,
    ⟨(some 17), .pick (.tmp 11) (.tmp 16) (.const (.bool false)), none⟩,
    ⟨(some 18), .move (.tmp 17), none⟩,
    ⟨(some 19), .fieldAddr 89 (.tmp 1) 3, (some (some 18, true))⟩,
    ⟨(some 20), .load 3 (.tmp 19), (some (some 18, true))⟩,
    ⟨(some 21), .call ⟨.value (.func 143), #[(.tmp 20)], #[3]⟩, (some (some 18, true))⟩,
    ⟨(some 22), .pick (.tmp 18) (.tmp 21) (.const (.bool false)), none⟩,
    ⟨(some 23), .move (.tmp 22), none⟩,
    ⟨(some 24), .fieldAddr 89 (.tmp 1) 0, (some (some 23, true))⟩,
    ⟨(some 25), .load 3 (.tmp 24), (some (some 23, true))⟩,
    ⟨(some 26), .fieldAddr 89 (.tmp 1) 3, (some (some 23, true))⟩,
    ⟨(some 27), .load 3 (.tmp 26), (some (some 23, true))⟩,
    ⟨(some 28), .binOp .sub 3 (.tmp 27) (.const (.int .i64 1)) 3, (some (some 23, true))⟩,
    ⟨(some 29), .call ⟨.value (.func 102), #[(.tmp 25), (.const (.int .i64 0)), (.tmp 28)], #[3, 3, 3]⟩, (some (some 23, true))⟩,
    ⟨(some 30), .pick (.tmp 23) (.tmp 29) (.const (.bool false)), none⟩,
    ⟨(some 2), .assign (.tmp 30), none⟩] [2])
  .ret))
theorem spec_l9One_k : fnOk Try.prog (fun _ => false) 120 = some (spec_l9One_c.strip, 31, [.tmp 2]) := by kernel_rfl
/-- loop.example/g01062/spec.l9Code: number 121, params [0] -/
def spec_l9Code_c : ACode := (.seq (.reg [⟨(some 1), .box 89 (.tmp 0), none⟩,
    ⟨(some 2), .assign (.const (.int .i64 0)), none⟩] [1])
  (.seq (.reg [⟨(some 3), .fieldAddr 89 (.tmp 1) 0, none⟩,
    ⟨(some 4), .load 3 (.tmp 3), none⟩,
    ⟨(some 5), .binOp .mul 3 (.tmp 4) (.const (.int .i64 10)) 3, none⟩,
    ⟨(some 6), .fieldAddr 89 (.tmp 1) 1, none⟩,
    ⟨(some 7), .load 3 (.tmp 6), none⟩,
    ⟨(some 8), .binOp .add 3 (.tmp 5) (.tmp 7) 3, none⟩,
    ⟨(some 9), .binOp .mul 3 (.tmp 8) (.const (.int .i64 10)) 3, none⟩,
    ⟨(some 10), .fieldAddr 89 (.tmp 1) 2, none⟩,
    ⟨(some 11), .load 3 (.tmp 10), none⟩,
    ⟨(some 12), .binOp .add 3 (.tmp 9) (.tmp 11) 3, none⟩,
    ⟨(some 13), .binOp .mul 3 (.tmp 12) (.const (.int .i64 10000)) 3, none⟩,
    ⟨(some 14), .fieldAddr 89 (.tmp 1) 3, none⟩,
    ⟨(some 15), .load 3 (.tmp 14), none⟩,
    ⟨(some 16), .binOp .add 3 (.tmp 13) (.tmp 15) 3, none⟩,
    ⟨(some 2), .assign (.tmp 16), none⟩] [2])
  .ret))
theorem spec_l9Code_k : fnOk Try.prog (fun _ => false) 121 = some (spec_l9Code_c.strip, 17, [.tmp 2]) := by kernel_rfl
/-- loop.example/g01062/spec.EarliestAt: number 122, params [0, 1, 2, 3] -/
def spec_EarliestAt_c : ACode := (.seq (.reg [⟨(some 8), .assign (.const (.int .i64 0)), none⟩,
    ⟨(some 9), .assign (.const (.bool false)), none⟩] [0, 1, 2, 3])
  (.seq (.seq (.reg [⟨(some 11), .move (.tmp 0), none⟩,
    ⟨(some 12), .move (.tmp 1), none⟩,
    ⟨(some 13), .move (.tmp 2), none⟩,
    ⟨(some 14), .call ⟨.value (.func 144), #[(.tmp 11), (.tmp 12), (.tmp 13)], #[29, 3, 3]⟩, none⟩,
    ⟨(some 15), .unOp .not 4 (.tmp 14), none⟩,
    ⟨(some 16), .move (.tmp 15), none⟩,
    ⟨(some 17), .move (.tmp 3), (some (some 16, false))⟩,
    ⟨(some 18), .call ⟨.value (.func 69), #[(.tmp 17)], #[3]⟩, (some (some 16, false))⟩,
    ⟨(some 19), .unOp .not 4 (.tmp 18), (some (some 16, false))⟩,
    ⟨(some 20), .pick (.tmp 16) (.const (.bool true)) (.tmp 19), none⟩] [0, 1, 2, 3, 20])
  (.cond (.tmp 20) (.seq (.reg [⟨(some 8), .assign (.const (.int .i64 0)), none⟩,
    ⟨(some 9), .assign (.const (.bool false)), none⟩] [8, 9])
  .ret)
  .skip))
  (.seq (.reg [⟨(some 21), .move (.tmp 0), none⟩,
    ⟨(some 22), .move (.tmp 1), none⟩,
    ⟨(some 23), .move (.tmp 2), none⟩,
    ⟨(some 24), .call ⟨.value (.func 130), #[(.tmp 21), (.tmp 22), (.tmp 23)], #[29, 3, 3]⟩, none⟩,
    ⟨(some 25), .move (.tmp 3), none⟩,
    ⟨(some 26), .indexAddr 26 (.tmp 24) (.tmp 25), none⟩,
    ⟨(some 27), .load 3 (.tmp 26), none⟩,
    ⟨(some 10), .assign (.tmp 27), none⟩] [10])
  (.seq (.seq (.reg [⟨(some 28), .move (.tmp 10), none⟩,
    ⟨(some 29), .binOp .eql 3 (.tmp 28) (.const (.int .i64 10000)) 3, none⟩] [10, 29])
  (.cond (.tmp 29) (.seq (.reg [⟨(some 8), .assign (.const (.int .i64 0)), none⟩,
    ⟨(some 9), .assign (.const (.bool false)), none⟩] [8, 9])
  .ret)
  .skip))
  (.seq (.reg [⟨(some 30), .move (.tmp 10), none⟩,
    ⟨(some 8), .assign (.tmp 30), none⟩,
    ⟨(some 9), .assign (.const (.bool true)), none⟩] [8, 9])
  .ret)))))
theorem spec_EarliestAt_k : fnOk Try.prog (fun _ => false) 122 = some (spec_EarliestAt_c.strip, 31, [.tmp 8, .tmp 9]) := by kernel_rfl
/-- head: [0, 1, 2, 3, 10, 11, 13] -/
def spec_BestRoute_l0 : ACode := (.seq (.seq (.reg [⟨(some 35), .move (.tmp 13), none⟩,
    ⟨(some 36), .move (.tmp 0), none⟩,
    ⟨(some 37), .call ⟨.builtin .len, #[(.tmp 36)], #[29]⟩, none⟩,
    ⟨(some 38), .binOp .lss 3 (.tmp 35) (.tmp 37) 3, none⟩] [0, 1, 2, 3, 10, 11, 13, 38])
  (.cond (.tmp 38) .skip
  (.exit 2)))
  (.seq (.block 3 (.seq (.reg [⟨(some 41), .move (.tmp 0), none⟩,
    ⟨(some 42), .move (.tmp 13), none⟩,
    ⟨(some 43), .indexAddr 29 (.tmp 41) (.tmp 42), none⟩,
    ⟨(some 44), .load 89 (.tmp 43), none⟩,
    ⟨(some 14), .alloc 89, none⟩,
    ⟨none, .store 89 (.tmp 14) (.tmp 44), none⟩] [0, 1, 2, 3, 10, 11, 13, 14])
  (.seq (.reg [⟨(some 45), .fieldAddr 89 (.tmp 14) 1, none⟩,
    ⟨(some 46), .load 3 (.tmp 45), none⟩,
    ⟨(some 47), .move (.tmp 1), none⟩,
    ⟨(some 48), .binOp .eql 3 (.tmp 46) (.tmp 47) 3, none⟩,
    ⟨(some 49), .move (.tmp 48), none⟩,
    ⟨(some 50), .fieldAddr 89 (.tmp 14) 0, (some (some 49, true))⟩,
    ⟨(some 51), .load 3 (.tmp 50), (some (some 49, true))⟩,
    ⟨(some 52), .move (.tmp 2), (some (some 49, true))⟩,
    ⟨(some 53), .binOp .geq 3 (.tmp 51) (.tmp 52) 3, (some (some 49, true))⟩,
    ⟨(some 54), .pick (.tmp 49) (.tmp 53) (.const (.bool false)), none⟩,
    ⟨(some 55), .move (.tmp 54), none⟩,
    ⟨(some 56), .move (.tmp 0), (some (some 55, true))⟩,
    ⟨(some 57), .fieldAddr 89 (.tmp 14) 2, (some (some 55, true))⟩,
    ⟨(some 58), .load 3 (.tmp 57), (some (some 55, true))⟩,
    ⟨(some 59), .fieldAddr 89 (.tmp 14) 3, (some (some 55, true))⟩,
    ⟨(some 60), .load 3 (.tmp 59), (some (some 55, true))⟩,
    ⟨(some 61), .call ⟨.value (.func 130), #[(.tmp 56), (.tmp 58), (.tmp 60)], #[29, 3, 3]⟩, (some (some 55, true))⟩,
    ⟨(some 62), .move (.tmp 3), (some (some 55, true))⟩,
    ⟨(some 63), .indexAddr 26 (.tmp 61) (.tmp 62), (some (some 55, true))⟩,
    ⟨(some 64), .load 3 (.tmp 63), (some (some 55, true))⟩,
    ⟨(some 65), .move (.tmp 11), (some (some 55, true))⟩,
    ⟨(some 66), .binOp .eql 3 (.tmp 64) (.tmp 65) 3, (some (some 55, true))⟩,
    ⟨(some 67), .pick (.tmp 55) (.tmp 66) (.const (.bool false)), none⟩] [0, 1, 2, 3, 10, 11, 13, 14, 67])
  (.cond (.tmp 67) (.seq (.reg [⟨(some 68), .move (.tmp 10), none⟩,
    ⟨(some 69), .move (.tmp 13), none⟩,
    ⟨(some 70), .buildSlice 26 1 #[(0, (.tmp 69))], none⟩,
    ⟨(some 71), .call ⟨.builtin .append, #[(.tmp 68), (.tmp 70)], #[26, 26]⟩, none⟩,
    ⟨(some 10), .assign (.tmp 71), none⟩] [0, 3, 10, 11, 14])
  (.seq (.reg [⟨(some 72), .fieldAddr 89 (.tmp 14) 2, none⟩,
    ⟨(some 73), .load 3 (.tmp 72), none⟩,
    ⟨(some 1), .assign (.tmp 73), none⟩] [0, 1, 3, 10, 11, 14])
  (.seq (.reg [⟨(some 74), .fieldAddr 89 (.tmp 14) 3, none⟩,
    ⟨(some 75), .load 3 (.tmp 74), none⟩,
    ⟨(some 2), .assign (.tmp 75), none⟩] [0, 1, 2, 3, 10, 11])
  (.exit 2))))
  .skip))))
  (.reg [⟨(some 39), .move (.tmp 13), none⟩,
    ⟨(some 40), .binOp .add 3 (.tmp 39) (.const (.int .i64 1)) 3, none⟩,
    ⟨(some 13), .assign (.tmp 40), none⟩] [0, 1, 2, 3, 10, 11, 13])))
/-- head: [0, 1, 2, 3, 10, 11] -/
def spec_BestRoute_l1 : ACode := (.seq (.seq (.reg [⟨(some 27), .move (.tmp 1), none⟩,
    ⟨(some 28), .move (.tmp 3), none⟩,
    ⟨(some 29), .binOp .neq 3 (.tmp 27) (.tmp 28) 3, none⟩,
    ⟨(some 30), .move (.tmp 29), none⟩,
    ⟨(some 31), .move (.tmp 2), (some (some 30, false))⟩,
    ⟨(some 32), .move (.tmp 11), (some (some 30, false))⟩,
    ⟨(some 33), .binOp .neq 3 (.tmp 31) (.tmp 32) 3, (some (some 30, false))⟩,
    ⟨(some 34), .pick (.tmp 30) (.const (.bool true)) (.tmp 33), none⟩] [0, 1, 2, 3, 10, 11, 34])
  (.cond (.tmp 34) .skip
  (.exit 0)))
  (.block 1 (.seq (.reg [⟨(some 13), .assign (.const (.int .i64 0)), none⟩] [0, 1, 2, 3, 10, 11, 13])
  (.block 2 (.loop spec_BestRoute_l0)))))
/-- loop.example/g01062/spec.BestRoute: number 123, params [0, 1, 2, 3] -/
def spec_BestRoute_c : ACode := (.seq (.reg [⟨(some 8), .assign (.const (.slice none 0 0)), none⟩,
    ⟨(some 9), .assign (.const (.bool false)), none⟩] [0, 1, 2, 3])
  (.seq (.reg [⟨(some 15), .buildSlice 26 0 #[], none⟩,
    ⟨(some 10), .assign (.tmp 15), none⟩] [0, 1, 2, 3, 10])
  (.seq (.reg [⟨(some 17), .move (.tmp 0), none⟩,
    ⟨(some 18), .move (.tmp 1), none⟩,
    ⟨(some 19), .move (.tmp 2), none⟩,
    ⟨(some 20), .move (.tmp 3), none⟩,
    ⟨(some 21), .call ⟨.value (.func 122), #[(.tmp 17), (.tmp 18), (.tmp 19), (.tmp 20)], #[29, 3, 3, 3]⟩, none⟩,
    ⟨(some 16), .move (.tmp 21), none⟩,
    ⟨(some 22), .extract (.tmp 16) 0, none⟩,
    ⟨(some 23), .extract (.tmp 16) 1, none⟩,
    ⟨(some 11), .assign (.tmp 22), none⟩,
    ⟨(some 12), .assign (.tmp 23), none⟩] [0, 1, 2, 3, 10, 11, 12])
  (.seq (.seq (.reg [⟨(some 24), .move (.tmp 12), none⟩,
    ⟨(some 25), .unOp .not 4 (.tmp 24), none⟩] [0, 1, 2, 3, 10, 11, 25])
  (.cond (.tmp 25) (.seq (.reg [⟨(some 26), .move (.tmp 10), none⟩,
    ⟨(some 8), .assign (.tmp 26), none⟩,
    ⟨(some 9), .assign (.const (.bool false)), none⟩] [8, 9])
  .ret)
  .skip))
  (.seq (.block 0 (.loop spec_BestRoute_l1))
  (.seq (.reg [⟨(some 76), .move (.tmp 10), none⟩,
    ⟨(some 8), .assign (.tmp 76), none⟩,
    ⟨(some 9), .assign (.const (.bool true)), none⟩] [8, 9])
  .ret))))))
theorem spec_BestRoute_k : fnOk Try.prog (fun _ => false) 123 = some (spec_BestRoute_c.strip, 77, [.tmp 8, .tmp 9]) := by kernel_rfl
/-- loop.example/g01062/impl.isMail: number 124, params [0] -/
def impl_isMail_c : ACode := (.seq (.reg [⟨(some 1), .box 89 (.tmp 0), none⟩,
    ⟨(some 2), .assign (.const (.bool false)), none⟩] [1])
  (.seq (.reg [⟨(some 3), .fieldAddr 89 (.tmp 1) 1, none⟩,
    ⟨(some 4), .load 3 (.tmp 3), none⟩,
    ⟨(some 5), .call ⟨.value (.func 75), #[(.tmp 4)], #[3]⟩, none⟩,
    ⟨(some 6), .move (.tmp 5), none⟩,
    ⟨(some 7), .fieldAddr 89 (.tmp 1) 2, (some (some 6, true))⟩,
    ⟨(some 8), .load 3 (.tmp 7), (some (some 6, true))⟩,
    ⟨(some 9), .call ⟨.value (.func 75), #[(.tmp 8)], #[3]⟩, (some (some 6, true))⟩,
    ⟨(some 10), .pick (.tmp 6) (.tmp 9) (.const (.bool false)), none⟩,
    ⟨(some 11), .move (.tmp 10), none⟩,
    ⟨(some 12), .fieldAddr 89 (.tmp 1) 1, (some (some 11, true))⟩,
    ⟨(some 13), .load 3 (.tmp 12), (some (some 11, true))⟩,
    ⟨(some 14), .fieldAddr 89 (.tmp 1) 2, (some (some 11, true))⟩,
    ⟨(some 15), .load 3 (.tmp 14), (some (some 11, true))⟩,
    ⟨(some 16), .binOp .neq 3 (.tmp 13) (.tmp 15) 3, (some (some 11, true))⟩,
    ⟨(some 17), .pick (.tmp 11) (.tmp 16) (.const (.bool false)), none⟩,
    ⟨(some 18), .move (.tmp 17), none⟩,
    ⟨(some 19), .fieldAddr 89 (.tmp 1) 0, (some (some 18, true))⟩,
    ⟨(some 20), .load 3 (.tmp 19), (some (some 18, true))⟩,
    ⟨(some 21), .fieldAddr 89 (.tmp 1) 3, (some (some 18, true))⟩,
    ⟨(some 22), .load 3 (.tmp 21), (some (some 18, true))⟩,
    ⟨(some 23), .binOp .sub 3 (.tmp 22) (.const (.int .i64 1)) 3, (some (some 18, true))⟩,
    ⟨(some 24), .call ⟨.value (.func 101), #[(.tmp 20), (.const (.int .i64 0)), (.tmp 23)], #[3, 3, 3]⟩, (some (some 18, true))⟩,
    ⟨(some 25), .pick (.tmp 18) (.tmp 24) (.const (.bool false)), none⟩,
    ⟨(some 26), .move (.tmp 25), none⟩,
    ⟨(some 27), .fieldAddr 89 (.tmp 1) 3, (some (some 26, true))⟩,
    ⟨(some 28), .load 3 (.tmp 27), (some (some 26, true))⟩,
    ⟨(some 29), .call ⟨.value (.func 95), #[(.tmp 28)], #[3]⟩, (some (some 26, true))⟩,
    ⟨(some 30), .pick (.tmp 26) (.tmp 29) (.const (.bool false)), none⟩,
    ⟨(some 2), .assign (.tmp 30), none⟩] [2])
  .ret))
theorem impl_isMail_k : fnOk Try.prog (fun _ => false) 124 = some (impl_isMail_c.strip, 31, [.tmp 2]) := by kernel_rfl
/-- head: [7, 16, 17, 18] -/
def impl_earliest_l0 : ACode := (.seq (.reg [⟨(some 19), .binOp .lss 3 (.tmp 18) (.tmp 17) 3, none⟩] [7, 16, 17, 18, 19])
  (.seq (.cond (.tmp 19) .skip
  (.exit 0))
  (.seq (.block 1 (.seq (.reg [⟨(some 20), .indexAddr 29 (.tmp 16) (.tmp 18), none⟩,
    ⟨(some 21), .load 89 (.tmp 20), none⟩,
    ⟨(some 9), .alloc 89, none⟩,
    ⟨none, .store 89 (.tmp 9) (.tmp 21), none⟩] [7, 9, 16, 17, 18])
  (.seq (.regQ [⟨(some 22), .move (.tmp 7), none⟩,
    ⟨(some 23), .fieldAddr 89 (.tmp 9) 1, none⟩,
    ⟨(some 24), .load 3 (.tmp 23), none⟩,
    ⟨(some 25), .indexAddr 26 (.tmp 22) (.tmp 24), none⟩,
    ⟨(some 26), .load 3 (.tmp 25), none⟩,
    ⟨(some 27), .fieldAddr 89 (.tmp 9) 0, none⟩,
    ⟨(some 28), .load 3 (.tmp 27), none⟩,
    ⟨(some 29), .call ⟨.value (.func 101), #[(.tmp 26), (.const (.int .i64 0)), (.tmp 28)], #[3, 3, 3]⟩, none⟩,
    ⟨(some 30), .move (.tmp 29), none⟩,
    ⟨(some 31), .move (.tmp 7), (some (some 30, true))⟩,
    ⟨(some 32), .fieldAddr 89 (.tmp 9) 2, (some (some 30, true))⟩,
    ⟨(some 33), .load 3 (.tmp 32), (some (some 30, true))⟩,
    ⟨(some 34), .indexAddr 26 (.tmp 31) (.tmp 33), (some (some 30, true))⟩,
    ⟨(some 35), .load 3 (.tmp 34), (some (some 30, true))⟩,
    ⟨(some 36), .binOp .lss 3 (.tmp 35) (.const (.int .i64 0)) 3, (some (some 30, true))⟩,
    ⟨(some 37), .move (.tmp 36), (some (some 30, true))⟩,
    ⟨(some 38), .fieldAddr 89 (.tmp 9) 3, (some (some 37, false))⟩,
    ⟨(some 39), .load 3 (.tmp 38), (some (some 37, false))⟩,
    ⟨(some 40), .move (.tmp 7), (some (some 37, false))⟩,
    ⟨(some 41), .fieldAddr 89 (.tmp 9) 2, (some (some 37, false))⟩,
    ⟨(some 42), .load 3 (.tmp 41), (some (some 37, false))⟩,
    ⟨(some 43), .indexAddr 26 (.tmp 40) (.tmp 42), (some (some 37, false))⟩,
    ⟨(some 44), .load 3 (.tmp 43), (some (some 37, false))⟩,
    ⟨(some 45), .binOp .lss 3 (.tmp 39) (.tmp 44) 3, (some (some 37, false))⟩,
    ⟨(some 46), .pick (.tmp 37) (.const (.bool true)) (.tmp 45), (some (some 30, true))⟩,
    ⟨(some 47), .pick (.tmp 30) (.tmp 46) (.const (.bool false)), none⟩] [7, 9, 16, 17, 18, 47])
  (.cond (.tmp 47) (.reg [⟨(some 48), .move (.tmp 7), none⟩,
    ⟨(some 49), .fieldAddr 89 (.tmp 9) 2, none⟩,
    ⟨(some 50), .load 3 (.tmp 49), none⟩,
    ⟨(some 51), .fieldAddr 89 (.tmp 9) 3, none⟩,
    ⟨(some 52), .load 3 (.tmp 51), none⟩,
    ⟨(some 53), .indexAddr 26 (.tmp 48) (.tmp 50), none⟩,
    ⟨none, .store 3 (.tmp 53) (.tmp 52), none⟩] [7, 16, 17, 18])
  .skip))))
  (.reg [⟨(some 54), .binOp .add 3 (.tmp 18) (.const (.int .i64 1)) 3, none⟩,
    ⟨(some 18), .move (.tmp 54), none⟩] [7, 16, 17, 18]))))
/-- loop.example/g01062/impl.earliest: number 125, params [0, 1, 2] -/
def impl_earliest_c : ACode := (.seq (.reg [⟨(some 6), .assign (.const (.slice none 0 0)), none⟩] [0, 1, 2])
  (.seq (.reg [⟨(some 10), .buildSlice 26 1 #[(0, (.const (.int .i64 (-1))))], none⟩,
    ⟨(some 11), .call ⟨.value (.func 157), #[(.tmp 10), (.const (.int .i64 10))], #[26, 3]⟩, none⟩,
    ⟨(some 7), .assign (.tmp 11), none⟩] [0, 1, 2, 7])
  (.seq (.reg [⟨(some 12), .move (.tmp 7), none⟩,
    ⟨(some 13), .move (.tmp 1), none⟩,
    ⟨(some 14), .move (.tmp 2), none⟩,
    ⟨(some 15), .indexAddr 26 (.tmp 12) (.tmp 13), none⟩,
    ⟨none, .store 3 (.tmp 15) (.tmp 14), none⟩] [0, 7])
  (.seq (.seq (.reg [⟨(some 16), .move (.tmp 0), none⟩,
    ⟨(some 17), .call ⟨.builtin .len, #[(.tmp 16)], #[29]⟩, none⟩,
    ⟨(some 18), .move (.const (.int .i64 0)), none⟩] [7, 16, 17, 18])
  (.block 0 (.loop impl_earliest_l0)))
  (.seq (.reg [⟨(some 55), .move (.tmp 7), none⟩,
    ⟨(some 6), .assign (.tmp 55), none⟩] [6])
  .ret)))))
theorem impl_earliest_k : fnOk Try.prog (fun _ => false) 125 = some (impl_earliest_c.strip, 56, [.tmp 6]) := by kernel_rfl
/-- head: [0, 1, 2, 3, 10, 11, 26, 27, 28] -/
def impl_bestRoute_l0 : ACode := (.seq (.reg [⟨(some 29), .binOp .lss 3 (.tmp 28) (.tmp 27) 3, none⟩] [0, 1, 2, 3, 10, 11, 26, 27, 28, 29])
  (.seq (.cond (.tmp 29) .skip
  (.exit 2))
  (.seq (.block 3 (.seq (.reg [⟨(some 30), .move (.tmp 28), none⟩,
    ⟨(some 31), .indexAddr 29 (.tmp 26) (.tmp 28), none⟩,
    ⟨(some 32), .load 89 (.tmp 31), none⟩,
    ⟨(some 13), .alloc 89, none⟩,
    ⟨(some 12), .assign (.tmp 30), none⟩,
    ⟨none, .store 89 (.tmp 13) (.tmp 32), none⟩] [0, 1, 2, 3, 10, 11, 12, 13, 26, 27, 28])
  (.seq (.reg [⟨(some 33), .fieldAddr 89 (.tmp 13) 1, none⟩,
    ⟨(some 34), .load 3 (.tmp 33), none⟩,
    ⟨(some 35), .move (.tmp 1), none⟩,
    ⟨(some 36), .binOp .eql 3 (.tmp 34) (.tmp 35) 3, none⟩,
    ⟨(some 37), .move (.tmp 36), none⟩,
    ⟨(some 38), .fieldAddr 89 (.tmp 13) 0, (some (some 37, true))⟩,
    ⟨(some 39), .load 3 (.tmp 38), (some (some 37, true))⟩,
    ⟨(some 40), .move (.tmp 2), (some (some 37, true))⟩,
    ⟨(some 41), .binOp .geq 3 (.tmp 39) (.tmp 40) 3, (some (some 37, true))⟩,
    ⟨(some 42), .pick (.tmp 37) (.tmp 41) (.const (.bool false)), none⟩,
    ⟨(some 43), .move (.tmp 42), none⟩,
    ⟨(some 44), .move (.tmp 0), (some (some 43, true))⟩,
    ⟨(some 45), .fieldAddr 89 (.tmp 13) 2, (some (some 43, true))⟩,
    ⟨(some 46), .load 3 (.tmp 45), (some (some 43, true))⟩,
    ⟨(some 47), .fieldAddr 89 (.tmp 13) 3, (some (some 43, true))⟩,
    ⟨(some 48), .load 3 (.tmp 47), (some (some 43, true))⟩,
    ⟨(some 49), .call ⟨.value (.func 125), #[(.tmp 44), (.tmp 46), (.tmp 48)], #[29, 3, 3]⟩, (some (some 43, true))⟩,
    ⟨(some 50), .move (.tmp 3), (some (some 43, true))⟩,
    ⟨(some 51), .indexAddr 26 (.tmp 49) (.tmp 50), (some (some 43, true))⟩,
    ⟨(some 52), .load 3 (.tmp 51), (some (some 43, true))⟩,
    ⟨(some 53), .move (.tmp 10), (some (some 43, true))⟩,
    ⟨(some 54), .binOp .eql 3 (.tmp 52) (.tmp 53) 3, (some (some 43, true))⟩,
    ⟨(some 55), .pick (.tmp 43) (.tmp 54) (.const (.bool false)), none⟩] [0, 1, 2, 3, 10, 11, 12, 13, 26, 27, 28, 55])
  (.cond (.tmp 55) (.seq (.reg [⟨(some 56), .move (.tmp 11), none⟩,
    ⟨(some 57), .move (.tmp 12), none⟩,
    ⟨(some 58), .buildSlice 26 1 #[(0, (.tmp 57))], none⟩,
    ⟨(some 59), .call ⟨.builtin .append, #[(.tmp 56), (.tmp 58)], #[26, 26]⟩, none⟩,
    ⟨(some 11), .assign (.tmp 59), none⟩] [0, 3, 10, 11, 13])
  (.seq (.regQ [⟨(some 60), .fieldAddr 89 (.tmp 13) 2, none⟩,
    ⟨(some 61), .load 3 (.tmp 60), none⟩,
    ⟨(some 62), .fieldAddr 89 (.tmp 13) 3, none⟩,
    ⟨(some 63), .load 3 (.tmp 62), none⟩,
    ⟨(some 1), .assign (.tmp 61), none⟩,
    ⟨(some 2), .assign (.tmp 63), none⟩] [0, 1, 2, 3, 10, 11])
  (.exit 2)))
  .skip))))
  (.reg [⟨(some 64), .binOp .add 3 (.tmp 28) (.const (.int .i64 1)) 3, none⟩,
    ⟨(some 28), .move (.tmp 64), none⟩] [0, 1, 2, 3, 10, 11, 26, 27, 28]))))
/-- head: [0, 1, 2, 3, 10, 11] -/
def impl_bestRoute_l1 : ACode := (.seq (.seq (.reg [⟨(some 23), .move (.tmp 1), none⟩,
    ⟨(some 24), .move (.tmp 3), none⟩,
    ⟨(some 25), .binOp .neq 3 (.tmp 23) (.tmp 24) 3, none⟩] [0, 1, 2, 3, 10, 11, 25])
  (.cond (.tmp 25) .skip
  (.exit 0)))
  (.block 1 (.seq (.reg [⟨(some 26), .move (.tmp 0), none⟩,
    ⟨(some 27), .call ⟨.builtin .len, #[(.tmp 26)], #[29]⟩, none⟩,
    ⟨(some 28), .move (.const (.int .i64 0)), none⟩] [0, 1, 2, 3, 10, 11, 26, 27, 28])
  (.block 2 (.loop impl_bestRoute_l0)))))
/-- loop.example/g01062/impl.bestRoute: number 126, params [0, 1, 2, 3] -/
def impl_bestRoute_c : ACode := (.seq (.reg [⟨(some 8), .assign (.const (.slice none 0 0)), none⟩,
    ⟨(some 9), .assign (.const (.bool false)), none⟩] [0, 1, 2, 3])
  (.seq (.reg [⟨(some 14), .move (.tmp 0), none⟩,
    ⟨(some 15), .move (.tmp 1), none⟩,
    ⟨(some 16), .move (.tmp 2), none⟩,
    ⟨(some 17), .call ⟨.value (.func 125), #[(.tmp 14), (.tmp 15), (.tmp 16)], #[29, 3, 3]⟩, none⟩,
    ⟨(some 18), .move (.tmp 3), none⟩,
    ⟨(some 19), .indexAddr 26 (.tmp 17) (.tmp 18), none⟩,
    ⟨(some 20), .load 3 (.tmp 19), none⟩,
    ⟨(some 10), .assign (.tmp 20), none⟩] [0, 1, 2, 3, 10])
  (.seq (.seq (.reg [⟨(some 21), .move (.tmp 10), none⟩,
    ⟨(some 22), .binOp .lss 3 (.tmp 21) (.const (.int .i64 0)) 3, none⟩] [0, 1, 2, 3, 10, 22])
  (.cond (.tmp 22) (.seq (.reg [⟨(some 8), .assign (.const (.slice none 0 0)), none⟩,
    ⟨(some 9), .assign (.const (.bool false)), none⟩] [8, 9])
  .ret)
  .skip))
  (.seq (.reg [⟨(some 11), .assign (.const (.slice none 0 0)), none⟩] [0, 1, 2, 3, 10, 11])
  (.seq (.block 0 (.loop impl_bestRoute_l1))
  (.seq (.reg [⟨(some 65), .move (.tmp 11), none⟩,
    ⟨(some 8), .assign (.tmp 65), none⟩,
    ⟨(some 9), .assign (.const (.bool true)), none⟩] [8, 9])
  .ret))))))
theorem impl_bestRoute_k : fnOk Try.prog (fun _ => false) 126 = some (impl_bestRoute_c.strip, 66, [.tmp 8, .tmp 9]) := by kernel_rfl
/-- head: [0, 1, 7, 8] -/
def slices_IndexFunc___int_int__l0 : ACode := (.seq (.reg [⟨(some 9), .binOp .lss 3 (.tmp 8) (.tmp 7) 3, none⟩] [0, 1, 7, 8, 9])
  (.seq (.cond (.tmp 9) .skip
  (.exit 0))
  (.seq (.block 1 (.seq (.reg [⟨(some 10), .move (.tmp 8), none⟩,
    ⟨(some 5), .assign (.tmp 10), none⟩] [0, 1, 5, 7, 8])
  (.seq (.reg [⟨(some 11), .move (.tmp 1), none⟩,
    ⟨(some 12), .move (.tmp 0), none⟩,
    ⟨(some 13), .move (.tmp 5), none⟩,
    ⟨(some 14), .indexAddr 26 (.tmp 12) (.tmp 13), none⟩,
    ⟨(some 15), .load 3 (.tmp 14), none⟩,
    ⟨(some 16), .call ⟨.value (.tmp 11), #[(.tmp 15)], #[3]⟩, none⟩] [0, 1, 5, 7, 8, 16])
  (.cond (.tmp 16) (.seq (.reg [⟨(some 17), .move (.tmp 5), none⟩,
    ⟨(some 4), .assign (.tmp 17), none⟩] [4])
  .ret)
  .skip))))
  (.reg [⟨(some 18), .binOp .add 3 (.tmp 8) (.const (.int .i64 1)) 3, none⟩,
    ⟨(some 8), .move (.tmp 18), none⟩] [0, 1, 7, 8]))))
/-- slices.IndexFunc[[]int,int]: number 127, params [0, 1] -/
def slices_IndexFunc___int_int__c : ACode := (.seq (.reg [⟨(some 4), .assign (.const (.int .i64 0)), none⟩] [0, 1])
  (.seq (.seq (.reg [⟨(some 6), .move (.tmp 0), none⟩,
    ⟨(some 7), .call ⟨.builtin .len, #[(.tmp 6)], #[26]⟩, none⟩,
    ⟨(some 8), .move (.const (.int .i64 0)), none⟩] [0, 1, 7, 8])
  (.block 0 (.loop slices_IndexFunc___int_int__l0)))
  (.seq (.reg [⟨(some 4), .assign (.const (.int .i64 (-1))), none⟩] [4])
  .ret)))
theorem slices_IndexFunc___int_int__k : fnOk Try.prog (fun _ => false) 127 = some (slices_IndexFunc___int_int__c.strip, 19, [.tmp 4]) := by kernel_rfl
/-- head: [0, 1, 2, 7, 8] -/
def spec_l9Times_l0 : ACode := (.seq (.seq (.reg [⟨(some 12), .move (.tmp 8), none⟩,
    ⟨(some 13), .move (.tmp 7), none⟩,
    ⟨(some 14), .call ⟨.builtin .len, #[(.tmp 13)], #[26]⟩, none⟩,
    ⟨(some 15), .binOp .lss 3 (.tmp 12) (.tmp 14) 3, none⟩] [0, 1, 2, 7, 8, 15])
  (.cond (.tmp 15) .skip
  (.exit 0)))
  (.seq (.block 1 (.reg [⟨(some 18), .move (.tmp 7), none⟩,
    ⟨(some 19), .move (.tmp 8), none⟩,
    ⟨(some 20), .indexAddr 26 (.tmp 18) (.tmp 19), none⟩,
    ⟨none, .store 3 (.tmp 20) (.const (.int .i64 10000)), none⟩] [0, 1, 2, 7, 8]))
  (.reg [⟨(some 16), .move (.tmp 8), none⟩,
    ⟨(some 17), .binOp .add 3 (.tmp 16) (.const (.int .i64 1)) 3, none⟩,
    ⟨(some 8), .assign (.tmp 17), none⟩] [0, 1, 2, 7, 8])))
/-- head: [0, 7, 9] -/
def spec_l9Times_l1 : ACode := (.seq (.seq (.reg [⟨(some 25), .move (.tmp 9), none⟩,
    ⟨(some 26), .move (.tmp 0), none⟩,
    ⟨(some 27), .call ⟨.builtin .len, #[(.tmp 26)], #[29]⟩, none⟩,
    ⟨(some 28), .binOp .lss 3 (.tmp 25) (.tmp 27) 3, none⟩] [0, 7, 9, 28])
  (.cond (.tmp 28) .skip
  (.exit 2)))
  (.seq (.block 3 (.seq (.reg [⟨(some 31), .move (.tmp 0), none⟩,
    ⟨(some 32), .move (.tmp 9), none⟩,
    ⟨(some 33), .indexAddr 29 (.tmp 31) (.tmp 32), none⟩,
    ⟨(some 34), .load 89 (.tmp 33), none⟩,
    ⟨(some 10), .alloc 89, none⟩,
    ⟨none, .store 89 (.tmp 10) (.tmp 34), none⟩] [0, 7, 9, 10])
  (.seq (.regQ [⟨(some 35), .move (.tmp 7), none⟩,
    ⟨(some 36), .fieldAddr 89 (.tmp 10) 1, none⟩,
    ⟨(some 37), .load 3 (.tmp 36), none⟩,
    ⟨(some 38), .indexAddr 26 (.tmp 35) (.tmp 37), none⟩,
    ⟨(some 39), .load 3 (.tmp 38), none⟩,
    ⟨(some 40), .fieldAddr 89 (.tmp 10) 0, none⟩,
    ⟨(some 41), .load 3 (.tmp 40), none⟩,
    ⟨(some 42), .binOp .leq 3 (.tmp 39) (.tmp 41) 3, none⟩] [0, 7, 9, 10, 42])
  (.cond (.tmp 42) (.regT [⟨(some 43), .move (.tmp 7), none⟩,
    ⟨(some 44), .fieldAddr 89 (.tmp 10) 2, none⟩,
    ⟨(some 45), .load 3 (.tmp 44), none⟩,
    ⟨(some 46), .move (.tmp 7), none⟩,
    ⟨(some 47), .fieldAddr 89 (.tmp 10) 2, none⟩,
    ⟨(some 48), .load 3 (.tmp 47), none⟩,
    ⟨(some 49), .indexAddr 26 (.tmp 46) (.tmp 48), none⟩,
    ⟨(some 50), .load 3 (.tmp 49), none⟩,
    ⟨(some 51), .fieldAddr 89 (.tmp 10) 3, none⟩,
    ⟨(some 52), .load 3 (.tmp 51), none⟩,
    ⟨(some 53), .call ⟨.value (.func 158), #[(.tmp 50), (.tmp 52)], #[3, 3]⟩, none⟩,
    ⟨(some 54), .indexAddr 26 (.tmp 43) (.tmp 45), none⟩]
    [⟨none, .store 3 (.tmp 54) (.tmp 53), none⟩] [0, 7, 9])
  .skip))))
  (.reg [⟨(some 29), .move (.tmp 9), none⟩,
    ⟨(some 30), .binOp .add 3 (.tmp 29) (.const (.int .i64 1)) 3, none⟩,
    ⟨(some 9), .assign (.tmp 30), none⟩] [0, 7, 9])))
/-- loop.example/g01062/spec.l9Times: number 130, params [0, 1, 2] -/
def spec_l9Times_c : ACode := (.seq (.reg [⟨(some 6), .assign (.const (.slice none 0 0)), none⟩] [0, 1, 2])
  (.seq (.reg [⟨(some 11), .makeSlice 26 (.const (.int .i64 10)) (.const (.int .i64 10)), none⟩,
    ⟨(some 7), .assign (.tmp 11), none⟩] [0, 1, 2, 7])
  (.seq (.seq (.reg [⟨(some 8), .assign (.const (.int .i64 0)), none⟩] [0, 1, 2, 7, 8])
  (.block 0 (.loop spec_l9Times_l0)))
  (.seq (.reg [⟨(some 21), .move (.tmp 7), none⟩,
    ⟨(some 22), .move (.tmp 1), none⟩,
    ⟨(some 23), .move (.tmp 2), none⟩,
    ⟨(some 24), .indexAddr 26 (.tmp 21) (.tmp 22), none⟩,
    ⟨none, .store 3 (.tmp 24) (.tmp 23), none⟩] [0, 7])
  (.seq (.seq (.reg [⟨(some 9), .assign (.const (.int .i64 0)), none⟩] [0, 7, 9])
  (.block 2 (.loop spec_l9Times_l1)))
  (.seq (.reg [⟨(some 55), .move (.tmp 7), none⟩,
    ⟨(some 6), .assign (.tmp 55), none⟩] [6])
  .ret))))))
theorem spec_l9Times_k : fnOk Try.prog (fun _ => false) 130 = some (spec_l9Times_c.strip, 56, [.tmp 6]) := by kernel_rfl
/-- loop.example/g01062/spec.l9Asked: number 144, params [0, 1, 2] -/
def spec_l9Asked_c : ACode := (.seq (.reg [⟨(some 6), .assign (.const (.bool false)), none⟩] [0, 1, 2])
  (.seq (.reg [⟨(some 7), .move (.tmp 0), none⟩,
    ⟨(some 8), .call ⟨.value (.func 67), #[(.tmp 7)], #[29]⟩, none⟩,
    ⟨(some 9), .move (.tmp 8), none⟩,
    ⟨(some 10), .move (.tmp 1), (some (some 9, true))⟩,
    ⟨(some 11), .call ⟨.value (.func 69), #[(.tmp 10)], #[3]⟩, (some (some 9, true))⟩,
    ⟨(some 12), .pick (.tmp 9) (.tmp 11) (.const (.bool false)), none⟩,
    ⟨(some 13), .move (.tmp 12), none⟩,
    ⟨(some 14), .move (.tmp 2), (some (some 13, true))⟩,
    ⟨(some 15), .call ⟨.value (.func 143), #[(.tmp 14)], #[3]⟩, (some (some 13, true))⟩,
    ⟨(some 16), .pick (.tmp 13) (.tmp 15) (.const (.bool false)), none⟩,
    ⟨(some 6), .assign (.tmp 16), none⟩] [6])
  .ret))
theorem spec_l9Asked_k : fnOk Try.prog (fun _ => false) 144 = some (spec_l9Asked_c.strip, 17, [.tmp 6]) := by kernel_rfl
/-- head: [7, 8] -/
def slices_Repeat___int_int__l0 : ACode := (.seq (.seq (.reg [⟨(some 34), .move (.tmp 8), none⟩,
    ⟨(some 35), .move (.tmp 7), none⟩,
    ⟨(some 36), .call ⟨.builtin .len, #[(.tmp 35)], #[26]⟩, none⟩,
    ⟨(some 37), .binOp .lss 3 (.tmp 34) (.tmp 36) 3, none⟩] [7, 8, 37])
  (.cond (.tmp 37) .skip
  (.exit 0)))
  (.block 1 (.regF []
    [39, 40, 41, 42, 43, 44, 38, 46] [] [] []
    [⟨(some 39), .move (.tmp 7), none⟩,
    ⟨(some 40), .move (.tmp 8), none⟩,
    ⟨(some 41), .slice 26 (.tmp 39) (some (.tmp 40)) none none, none⟩,
    ⟨(some 42), .move (.tmp 7), none⟩,
    ⟨(some 43), .move (.tmp 8), none⟩,
    ⟨(some 44), .slice 26 (.tmp 42) none (some (.tmp 43)) none, none⟩,
    ⟨(some 45), .call ⟨.builtin .copy, #[(.tmp 41), (.tmp 44)], #[26, 26]⟩, none⟩,
    ⟨(some 38), .move (.tmp 8), none⟩,
    ⟨(some 46), .binOp .add 3 (.tmp 38) (.tmp 45) 3, none⟩,
    ⟨(some 8), .assign (.tmp 46), none⟩] [7, 8])))
/-- slices.Repeat[[]int,int]: number 157, params [0, 1] -/
def slices_Repeat___int_int__c : ACode := (.seq (.reg [⟨(some 4), .assign (.const (.slice none 0 0)), none⟩] [0, 1])
  (.seq (.seq (.reg [⟨(some 9), .move (.tmp 1), none⟩,
    ⟨(some 10), .binOp .lss 3 (.tmp 9) (.const (.int .i64 0)) 3, none⟩] [0, 1, 10])
  (.cond (.tmp 10) (.reg [⟨(some 11), .makeInterface 9 (.const (.string ⟨#[99, 97, 110, 110, 111, 116, 32, 98, 101, 32, 110, 101, 103, 97, 116, 105, 118, 101]⟩)), none⟩,
    ⟨none, .panic (.tmp 11), none⟩] [0, 1])
  .skip))
  (.seq (.reg [⟨(some 13), .move (.tmp 0), none⟩,
    ⟨(some 14), .call ⟨.builtin .len, #[(.tmp 13)], #[26]⟩, none⟩,
    ⟨(some 15), .convert 3 142 (.tmp 14), none⟩,
    ⟨(some 16), .move (.tmp 1), none⟩,
    ⟨(some 17), .convert 3 142 (.tmp 16), none⟩,
    ⟨(some 18), .call ⟨.value (.func 166), #[(.tmp 15), (.tmp 17)], #[142, 142]⟩, none⟩,
    ⟨(some 12), .move (.tmp 18), none⟩,
    ⟨(some 19), .extract (.tmp 12) 0, none⟩,
    ⟨(some 20), .extract (.tmp 12) 1, none⟩,
    ⟨(some 5), .assign (.tmp 19), none⟩,
    ⟨(some 6), .assign (.tmp 20), none⟩] [0, 5, 6])
  (.seq (.seq (.reg [⟨(some 21), .move (.tmp 5), none⟩,
    ⟨(some 22), .binOp .gtr 142 (.tmp 21) (.const (.int .u64 0)) 142, none⟩,
    ⟨(some 23), .move (.tmp 22), none⟩,
    ⟨(some 24), .move (.tmp 6), (some (some 23, false))⟩,
    ⟨(some 25), .binOp .gtr 142 (.tmp 24) (.const (.int .u64 9223372036854775807)) 142, (some (some 23, false))⟩,
    ⟨(some 26), .pick (.tmp 23) (.const (.bool true)) (.tmp 25), none⟩] [0, 6, 26])
  (.cond (.tmp 26) (.reg [⟨(some 27), .makeInterface 9 (.const (.string ⟨#[116, 104, 101, 32, 114, 101, 115, 117, 108, 116, 32, 111, 102, 32, 40, 108, 101, 110, 40, 120, 41, 32, 42, 32, 99, 111, 117, 110, 116, 41, 32, 111, 118, 101, 114, 102, 108, 111, 119, 115]⟩)), none⟩,
    ⟨none, .panic (.tmp 27), none⟩] [0, 6])
  .skip))
  (.seq (.reg [⟨(some 28), .move (.tmp 6), none⟩,
    ⟨(some 29), .convert 142 3 (.tmp 28), none⟩,
    ⟨(some 30), .makeSlice 26 (.tmp 29) (.tmp 29), none⟩,
    ⟨(some 7), .assign (.tmp 30), none⟩] [0, 7])
  (.seq (.reg [⟨(some 31), .move (.tmp 7), none⟩,
    ⟨(some 32), .move (.tmp 0), none⟩,
    ⟨(some 33), .call ⟨.builtin .copy, #[(.tmp 31), (.tmp 32)], #[26, 26]⟩, none⟩,
    ⟨(some 8), .assign (.tmp 33), none⟩] [7, 8])
  (.seq (.block 0 (.loop slices_Repeat___int_int__l0))
  (.seq (.reg [⟨(some 47), .move (.tmp 7), none⟩,
    ⟨(some 4), .assign (.tmp 47), none⟩] [4])
  .ret))))))))
theorem slices_Repeat___int_int__k : fnOk Try.prog (fun _ => false) 157 = some (slices_Repeat___int_int__c.strip, 48, [.tmp 4]) := by kernel_rfl
end Go.Proofs.Ytjbedbfgbmfdfaa
