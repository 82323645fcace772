/- A part of the proof of a law of this seat: no condition. -/
import Derived.Test.YtjabgfnljbnmmaaDoorT1e
import Derived.Test.YtjabgfnljbnmmaaDoorA8
namespace Go.Proofs.YtjabgfnljbnmmaaDoor
open Go.Ax
def c9 : AC :=
  (.seq (.reg (.mk [0, 1, 2] [] []) [⟨none, some 6, .mvS none (.v (.bool false))⟩])
  (.seq (.seq (.reg (.mk [0, 1, 2, 19] [] []) [⟨none, some 18, .call [] none 0 11 []⟩,
 ⟨none, some 19, .un .not (.t 18)⟩])
  (.cond (.t 19) (.seq (.reg (.mk [6] [(.sub 22 0), (.sub 22 1), (.sub 22 2), (.sub 22 3), (.sub 22 4), (.sub 22 5), (.sub 22 6)] []) [⟨none, some 6, .mvS none (.v (.bool false))⟩])
  .ret) .skip))
  (.seq (.reg (.mk [1, 2, 7, 8, 9] [(.sub 22 0), (.sub 22 1), (.sub 22 2), (.sub 22 3), (.sub 22 4), (.sub 22 5), (.sub 22 6), (.loc 8)] []) [⟨none, some 21, .mv (some 5) (.t 0)⟩,
 ⟨none, some 22, .call [(some 5)] none 7 12 [(.t 21)]⟩,
 ⟨none, some 20, .mv none (.t 22)⟩,
 ⟨none, some 23, .ext (.t 20) 0⟩,
 ⟨none, some 24, .ext (.t 20) 1⟩,
 ⟨none, some 25, .ext (.t 20) 2⟩,
 ⟨none, some 8, .alloc [(.own 2 []), (.own 2 [])]⟩,
 ⟨none, some 7, .mvS none (.t 23)⟩,
 ⟨none, none, .store 2 none (.t 8) (.t 24)⟩,
 ⟨none, some 9, .mvS none (.t 25)⟩])
  (.seq (.seq (.reg (.mk [1, 2, 7, 8, 9, 33] [(.sub 22 0), (.sub 22 1), (.sub 22 2), (.sub 22 3), (.sub 22 4), (.sub 22 5), (.sub 22 6), (.loc 8)] []) [⟨none, some 26, .mv none (.t 9)⟩,
 ⟨none, some 27, .un .not (.t 26)⟩,
 ⟨none, some 28, .mv none (.t 27)⟩,
 ⟨some (28, false), some 29, .fa 0 (.t 8)⟩,
 ⟨some (28, false), some 30, .load none false (.t 29)⟩,
 ⟨some (28, false), some 31, .lenSl (.t 30)⟩,
 ⟨some (28, false), some 32, .bin [] .eql (.t 31) (.v (.int .i64 0))⟩,
 ⟨none, some 33, .pick (.t 28) (.v (.bool true)) (.t 32)⟩])
  (.cond (.t 33) (.seq (.reg (.mk [6] [(.sub 22 0), (.sub 22 1), (.sub 22 2), (.sub 22 3), (.sub 22 4), (.sub 22 5), (.sub 22 6)] []) [⟨none, some 34, .mvS none (.t 9)⟩,
 ⟨none, some 6, .mvS none (.t 34)⟩])
  .ret) .skip))
  (.seq (.reg (.mk [1, 2, 7, 8, 10] [(.sub 22 0), (.sub 22 1), (.sub 22 2), (.sub 22 3), (.sub 22 4), (.sub 22 5), (.sub 22 6), (.loc 8)] []) [⟨none, some 10, .mvS (some 1) (.v .nils)⟩])
  (.seq (.seq (.reg (.mk [1, 2, 7, 8, 10, 11] [(.sub 22 0), (.sub 22 1), (.sub 22 2), (.sub 22 3), (.sub 22 4), (.sub 22 5), (.sub 22 6), (.loc 8)] []) [⟨none, some 11, .mvS none (.v (.int .i64 0))⟩])
  (.block 0 (.loop (.mk [1, 2, 7, 8, 10, 11] [(.sub 22 0), (.sub 22 1), (.sub 22 2), (.sub 22 3), (.sub 22 4), (.sub 22 5), (.sub 22 6), (.loc 8)] []) (.seq (.seq (.reg (.mk [1, 2, 7, 8, 10, 11, 39] [(.sub 22 0), (.sub 22 1), (.sub 22 2), (.sub 22 3), (.sub 22 4), (.sub 22 5), (.sub 22 6), (.loc 8)] []) [⟨none, some 35, .mv none (.t 11)⟩,
 ⟨none, some 36, .fa 0 (.t 8)⟩,
 ⟨none, some 37, .load none false (.t 36)⟩,
 ⟨none, some 38, .lenSl (.t 37)⟩,
 ⟨none, some 39, .bin [] .lss (.t 35) (.t 38)⟩])
  (.cond (.t 39) .skip (.exit 0)))
  (.seq (.block 1 (.seq (.reg (.mk [1, 2, 7, 8, 10, 11, 12] [(.sub 22 0), (.sub 22 1), (.sub 22 2), (.sub 22 3), (.sub 22 4), (.sub 22 5), (.sub 22 6), (.loc 8)] []) [⟨none, some 43, .mv none (.t 7)⟩,
 ⟨none, some 44, .mv none (.t 11)⟩,
 ⟨none, some 45, .call [none, none] none 0 22 [(.t 43), (.t 44)]⟩,
 ⟨none, some 42, .mv none (.t 45)⟩,
 ⟨none, some 46, .ext (.t 42) 0⟩,
 ⟨none, some 47, .ext (.t 42) 1⟩,
 ⟨none, some 12, .mvS none (.t 46)⟩,
 ⟨none, some 13, .mvS none (.t 47)⟩])
  (.reg (.mk [1, 2, 7, 8, 10, 11] [(.sub 22 0), (.sub 22 1), (.sub 22 2), (.sub 22 3), (.sub 22 4), (.sub 22 5), (.sub 22 6), (.loc 8)] []) [⟨none, some 48, .mvS (some 1) (.t 10)⟩,
 ⟨none, some 49, .mv none (.t 12)⟩,
 ⟨none, some 50, .buildSl 1 [(.t 49)]⟩,
 ⟨none, some 51, .app 1 8 (.t 48) (.t 50)⟩,
 ⟨none, some 10, .mvS (some 1) (.t 51)⟩])))
  (.reg (.mk [1, 2, 7, 8, 10, 11] [(.sub 22 0), (.sub 22 1), (.sub 22 2), (.sub 22 3), (.sub 22 4), (.sub 22 5), (.sub 22 6), (.loc 8)] []) [⟨none, some 40, .mv none (.t 11)⟩,
 ⟨none, some 41, .bin [] .add (.t 40) (.v (.int .i64 1))⟩,
 ⟨none, some 11, .mvS none (.t 41)⟩]))))))
  (.seq (.reg (.mk [7, 10] [(.sub 22 0), (.sub 22 1), (.sub 22 2), (.sub 22 3), (.sub 22 4), (.sub 22 5), (.sub 22 6)] []) [⟨none, some 52, .mv none (.t 7)⟩,
 ⟨none, some 53, .mv none (.t 1)⟩,
 ⟨none, some 54, .mv none (.t 2)⟩,
 ⟨none, some 55, .call [none, none, none] none 0 25 [(.t 52), (.t 53), (.t 54)]⟩])
  (.seq (.reg (.mk [7, 10] [(.sub 22 0), (.sub 22 1), (.sub 22 2), (.sub 22 3), (.sub 22 4), (.sub 22 5), (.sub 22 6)] []) [⟨none, some 56, .mv none (.t 7)⟩,
 ⟨none, some 57, .buildSl 1 [(.v (.int .i64 0))]⟩,
 ⟨none, some 58, .call [none, none, (some 1)] none 0 18 [(.t 56), (.v (.str [102])), (.t 57)]⟩])
  (.seq (.seq (.reg (.mk [7, 10, 14] [(.sub 22 0), (.sub 22 1), (.sub 22 2), (.sub 22 3), (.sub 22 4), (.sub 22 5), (.sub 22 6)] []) [⟨none, some 14, .mvS none (.v (.int .i64 0))⟩])
  (.block 2 (.loop (.mk [7, 10, 14] [(.sub 22 0), (.sub 22 1), (.sub 22 2), (.sub 22 3), (.sub 22 4), (.sub 22 5), (.sub 22 6)] []) (.seq (.seq (.reg (.mk [7, 10, 14, 62] [(.sub 22 0), (.sub 22 1), (.sub 22 2), (.sub 22 3), (.sub 22 4), (.sub 22 5), (.sub 22 6)] []) [⟨none, some 59, .mv none (.t 14)⟩,
 ⟨none, some 60, .mv (some 1) (.t 10)⟩,
 ⟨none, some 61, .lenSl (.t 60)⟩,
 ⟨none, some 62, .bin [] .lss (.t 59) (.t 61)⟩])
  (.cond (.t 62) .skip (.exit 2)))
  (.seq (.block 3 (.seq (.reg (.mk [7, 10, 14, 15] [(.sub 22 0), (.sub 22 1), (.sub 22 2), (.sub 22 3), (.sub 22 4), (.sub 22 5), (.sub 22 6)] []) [⟨none, some 15, .mvS none (.v (.int .i64 0))⟩])
  (.block 4 (.loop (.mk [7, 10, 14, 15] [(.sub 22 0), (.sub 22 1), (.sub 22 2), (.sub 22 3), (.sub 22 4), (.sub 22 5), (.sub 22 6)] []) (.seq (.seq (.reg (.mk [7, 10, 14, 15, 67] [(.sub 22 0), (.sub 22 1), (.sub 22 2), (.sub 22 3), (.sub 22 4), (.sub 22 5), (.sub 22 6)] []) [⟨none, some 65, .mv none (.t 15)⟩,
 ⟨none, some 66, .mv none (.t 14)⟩,
 ⟨none, some 67, .bin [] .lss (.t 65) (.t 66)⟩])
  (.cond (.t 67) .skip (.exit 4)))
  (.seq (.block 5 (.seq (.reg (.mk [7, 10, 14, 15, 16, 17] [(.sub 22 0), (.sub 22 1), (.sub 22 2), (.sub 22 3), (.sub 22 4), (.sub 22 5), (.sub 22 6)] []) [⟨none, some 71, .mv none (.t 7)⟩,
 ⟨none, some 72, .mv none (.t 14)⟩,
 ⟨none, some 73, .mv none (.t 15)⟩,
 ⟨none, some 74, .call [none, none, none] none 0 21 [(.t 71), (.t 72), (.t 73)]⟩,
 ⟨none, some 70, .mv none (.t 74)⟩,
 ⟨none, some 75, .ext (.t 70) 0⟩,
 ⟨none, some 76, .ext (.t 70) 1⟩,
 ⟨none, some 16, .mvS none (.t 75)⟩,
 ⟨none, some 17, .mvS none (.t 76)⟩])
  (.seq (.regD (.mk [7, 10, 14, 15, 93] [(.sub 22 0), (.sub 22 1), (.sub 22 2), (.sub 22 3), (.sub 22 4), (.sub 22 5), (.sub 22 6)] []) [(3, 4), (3, 7), (4, 7), (5, 7), (6, 7), (3, 8), (4, 8), (5, 8), (6, 8), (7, 8), (3, 9), (4, 9), (5, 9), (6, 9), (3, 10), (4, 10), (5, 10), (6, 10)] [⟨none, some 77, .mv none (.t 17)⟩,
 ⟨none, some 78, .bin [] .neq (.t 77) (.v (.int .i64 0))⟩,
 ⟨none, some 79, .mv none (.t 78)⟩,
 ⟨some (79, false), some 80, .mv (some 1) (.t 10)⟩,
 ⟨some (79, false), some 81, .mv none (.t 14)⟩,
 ⟨some (79, false), some 82, .ia (some 1) none (.t 80) (.t 81)⟩,
 ⟨some (79, false), some 83, .load none false (.t 82)⟩,
 ⟨some (79, false), some 84, .mv (some 1) (.t 10)⟩,
 ⟨some (79, false), some 85, .mv none (.t 15)⟩,
 ⟨some (79, false), some 86, .ia (some 1) none (.t 84) (.t 85)⟩,
 ⟨some (79, false), some 87, .load none false (.t 86)⟩,
 ⟨some (79, false), some 88, .bin [] .eql (.t 83) (.t 87)⟩,
 ⟨some (79, false), some 89, .mv none (.t 88)⟩,
 ⟨some (89, true), some 90, .mv none (.t 16)⟩,
 ⟨some (89, true), some 91, .un .not (.t 90)⟩,
 ⟨some (79, false), some 92, .pick (.t 89) (.t 91) (.v (.bool false))⟩,
 ⟨none, some 93, .pick (.t 79) (.v (.bool true)) (.t 92)⟩])
  (.cond (.t 93) (.seq (.reg (.mk [6] [(.sub 22 0), (.sub 22 1), (.sub 22 2), (.sub 22 3), (.sub 22 4), (.sub 22 5), (.sub 22 6)] []) [⟨none, some 6, .mvS none (.v (.bool false))⟩])
  .ret) .skip))))
  (.reg (.mk [7, 10, 14, 15] [(.sub 22 0), (.sub 22 1), (.sub 22 2), (.sub 22 3), (.sub 22 4), (.sub 22 5), (.sub 22 6)] []) [⟨none, some 68, .mv none (.t 15)⟩,
 ⟨none, some 69, .bin [] .add (.t 68) (.v (.int .i64 1))⟩,
 ⟨none, some 15, .mvS none (.t 69)⟩])))))))
  (.reg (.mk [7, 10, 14] [(.sub 22 0), (.sub 22 1), (.sub 22 2), (.sub 22 3), (.sub 22 4), (.sub 22 5), (.sub 22 6)] []) [⟨none, some 63, .mv none (.t 14)⟩,
 ⟨none, some 64, .bin [] .add (.t 63) (.v (.int .i64 1))⟩,
 ⟨none, some 14, .mvS none (.t 64)⟩]))))))
  (.seq (.reg (.mk [6] [(.sub 22 0), (.sub 22 1), (.sub 22 2), (.sub 22 3), (.sub 22 4), (.sub 22 5), (.sub 22 6)] []) [⟨none, some 6, .mvS none (.v (.bool true))⟩])
  .ret))))))))))
theorem k9 {B : Heap} {args : List V} {objs : List Ob} {r : V} {objs' news : List Ob} (h : acwp (COk Tryd.prog B) c9 (initSt args objs) (EndA (tabT tab) [.tmp 6] objs.length (mvOf args objs) [] r objs' news)) (hn : args.length ≤ Tryd.f9.ntmps := by exact Nat.le_of_ble_eq_true rfl) (hlen : objs'.length = objs.length := by rfl) : Ok B 9 args objs r objs' news :=
  callMB tabOk mixed Tryd.func9 Tryd.call9 (hints [] [([0, 1, 2], []), ([], []), ([0, 1, 2, 19], []), ([], []), ([6], [.sub 22 0, .sub 22 1, .sub 22 2, .sub 22 3, .sub 22 4, .sub 22 5, .sub 22 6]), ([], []), ([1, 2, 7, 8, 9], [.sub 22 0, .sub 22 1, .sub 22 2, .sub 22 3, .sub 22 4, .sub 22 5, .sub 22 6, .loc 8]), ([], []), ([1, 2, 7, 8, 9, 33], [.sub 22 0, .sub 22 1, .sub 22 2, .sub 22 3, .sub 22 4, .sub 22 5, .sub 22 6, .loc 8]), ([], []), ([6], [.sub 22 0, .sub 22 1, .sub 22 2, .sub 22 3, .sub 22 4, .sub 22 5, .sub 22 6]), ([], []), ([1, 2, 7, 8, 10], [.sub 22 0, .sub 22 1, .sub 22 2, .sub 22 3, .sub 22 4, .sub 22 5, .sub 22 6, .loc 8]), ([], []), ([1, 2, 7, 8, 10, 11], [.sub 22 0, .sub 22 1, .sub 22 2, .sub 22 3, .sub 22 4, .sub 22 5, .sub 22 6, .loc 8]), ([], []), ([1, 2, 7, 8, 10, 11, 39], [.sub 22 0, .sub 22 1, .sub 22 2, .sub 22 3, .sub 22 4, .sub 22 5, .sub 22 6, .loc 8]), ([1, 2, 7, 8, 10, 11], [.sub 22 0, .sub 22 1, .sub 22 2, .sub 22 3, .sub 22 4, .sub 22 5, .sub 22 6, .loc 8]), ([1, 2, 7, 8, 10, 11], [.sub 22 0, .sub 22 1, .sub 22 2, .sub 22 3, .sub 22 4, .sub 22 5, .sub 22 6, .loc 8]), ([], []), ([1, 2, 7, 8, 10, 11, 12], [.sub 22 0, .sub 22 1, .sub 22 2, .sub 22 3, .sub 22 4, .sub 22 5, .sub 22 6, .loc 8]), ([], []), ([1, 2, 7, 8, 10, 11], [.sub 22 0, .sub 22 1, .sub 22 2, .sub 22 3, .sub 22 4, .sub 22 5, .sub 22 6, .loc 8]), ([], []), ([7, 10], [.sub 22 0, .sub 22 1, .sub 22 2, .sub 22 3, .sub 22 4, .sub 22 5, .sub 22 6]), ([], []), ([7, 10], [.sub 22 0, .sub 22 1, .sub 22 2, .sub 22 3, .sub 22 4, .sub 22 5, .sub 22 6]), ([], []), ([7, 10, 14], [.sub 22 0, .sub 22 1, .sub 22 2, .sub 22 3, .sub 22 4, .sub 22 5, .sub 22 6]), ([], []), ([7, 10, 14, 62], [.sub 22 0, .sub 22 1, .sub 22 2, .sub 22 3, .sub 22 4, .sub 22 5, .sub 22 6]), ([7, 10, 14], [.sub 22 0, .sub 22 1, .sub 22 2, .sub 22 3, .sub 22 4, .sub 22 5, .sub 22 6]), ([7, 10, 14], [.sub 22 0, .sub 22 1, .sub 22 2, .sub 22 3, .sub 22 4, .sub 22 5, .sub 22 6]), ([], []), ([7, 10, 14, 15], [.sub 22 0, .sub 22 1, .sub 22 2, .sub 22 3, .sub 22 4, .sub 22 5, .sub 22 6]), ([], []), ([7, 10, 14, 15, 67], [.sub 22 0, .sub 22 1, .sub 22 2, .sub 22 3, .sub 22 4, .sub 22 5, .sub 22 6]), ([7, 10, 14, 15], [.sub 22 0, .sub 22 1, .sub 22 2, .sub 22 3, .sub 22 4, .sub 22 5, .sub 22 6]), ([7, 10, 14, 15], [.sub 22 0, .sub 22 1, .sub 22 2, .sub 22 3, .sub 22 4, .sub 22 5, .sub 22 6]), ([], []), ([7, 10, 14, 15, 16, 17], [.sub 22 0, .sub 22 1, .sub 22 2, .sub 22 3, .sub 22 4, .sub 22 5, .sub 22 6]), ([], []), ([7, 10, 14, 15, 93], [.sub 22 0, .sub 22 1, .sub 22 2, .sub 22 3, .sub 22 4, .sub 22 5, .sub 22 6]), ([], []), ([6], [.sub 22 0, .sub 22 1, .sub 22 2, .sub 22 3, .sub 22 4, .sub 22 5, .sub 22 6]), ([], []), ([6], [.sub 22 0, .sub 22 1, .sub 22 2, .sub 22 3, .sub 22 4, .sub 22 5, .sub 22 6]), ([], [])]) ⟨[6], [], [], [(12, 7)]⟩ (by kernel_rfl) rfl rfl (by decide) hn hlen h
end Go.Proofs.YtjabgfnljbnmmaaDoor
