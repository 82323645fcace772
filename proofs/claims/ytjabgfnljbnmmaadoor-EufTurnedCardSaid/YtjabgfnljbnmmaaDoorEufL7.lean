/- A part of the proof of a law of this seat: no condition. -/
import Derived.Test.YtjabgfnljbnmmaaDoorT1e
import Derived.Test.YtjabgfnljbnmmaaDoorA8
namespace Go.Proofs.YtjabgfnljbnmmaaDoor
open Go.Ax
def c7 : AC :=
  (.seq (.reg (.mk [0] [] []) [⟨none, some 2, .mvS none (.v (.bool false))⟩])
  (.seq (.seq (.reg (.mk [0, 15] [] []) [⟨none, some 14, .call [] none 0 11 []⟩,
 ⟨none, some 15, .un .not (.t 14)⟩])
  (.cond (.t 15) (.seq (.reg (.mk [2] [] []) [⟨none, some 2, .mvS none (.v (.bool false))⟩])
  .ret) .skip))
  (.seq (.reg (.mk [3, 4, 5] [(.sub 18 0), (.sub 18 1), (.sub 18 2), (.sub 18 3), (.sub 18 4), (.sub 18 5), (.sub 18 6), (.loc 4)] []) [⟨none, some 17, .mv (some 5) (.t 0)⟩,
 ⟨none, some 18, .call [(some 5)] none 7 12 [(.t 17)]⟩,
 ⟨none, some 16, .mv none (.t 18)⟩,
 ⟨none, some 19, .ext (.t 16) 0⟩,
 ⟨none, some 20, .ext (.t 16) 1⟩,
 ⟨none, some 21, .ext (.t 16) 2⟩,
 ⟨none, some 4, .alloc [(.own 2 []), (.own 2 [])]⟩,
 ⟨none, some 3, .mvS none (.t 19)⟩,
 ⟨none, none, .store 2 none (.t 4) (.t 20)⟩,
 ⟨none, some 5, .mvS none (.t 21)⟩])
  (.seq (.reg (.mk [3, 4, 5, 6] [(.sub 18 0), (.sub 18 1), (.sub 18 2), (.sub 18 3), (.sub 18 4), (.sub 18 5), (.sub 18 6), (.sub 22 0), (.sub 22 1), (.sub 22 2), (.sub 22 3), (.sub 22 4), (.sub 22 5), (.sub 22 6), (.loc 4)] []) [⟨none, some 22, .call [] none 7 24 []⟩,
 ⟨none, some 6, .mvS none (.t 22)⟩])
  (.seq (.seq (.reg (.mk [3, 4, 6, 28] [(.sub 18 0), (.sub 18 1), (.sub 18 2), (.sub 18 3), (.sub 18 4), (.sub 18 5), (.sub 18 6), (.sub 22 0), (.sub 22 1), (.sub 22 2), (.sub 22 3), (.sub 22 4), (.sub 22 5), (.sub 22 6), (.loc 4)] []) [⟨none, some 23, .mv none (.t 5)⟩,
 ⟨none, some 24, .un .not (.t 23)⟩,
 ⟨none, some 25, .mv none (.t 24)⟩,
 ⟨some (25, false), some 26, .mv none (.t 6)⟩,
 ⟨some (25, false), some 27, .bin [3] .eql (.t 26) (.v .nilp)⟩,
 ⟨none, some 28, .pick (.t 25) (.v (.bool true)) (.t 27)⟩])
  (.cond (.t 28) (.seq (.reg (.mk [2] [] []) [⟨none, some 2, .mvS none (.v (.bool false))⟩])
  .ret) .skip))
  (.seq (.seq (.reg (.mk [3, 4, 6, 7] [(.sub 18 0), (.sub 18 1), (.sub 18 2), (.sub 18 3), (.sub 18 4), (.sub 18 5), (.sub 18 6), (.sub 22 0), (.sub 22 1), (.sub 22 2), (.sub 22 3), (.sub 22 4), (.sub 22 5), (.sub 22 6), (.loc 4)] []) [⟨none, some 7, .mvS none (.v (.int .i64 0))⟩])
  (.block 0 (.loop (.mk [3, 4, 6, 7] [(.sub 18 0), (.sub 18 1), (.sub 18 2), (.sub 18 3), (.sub 18 4), (.sub 18 5), (.sub 18 6), (.sub 22 0), (.sub 22 1), (.sub 22 2), (.sub 22 3), (.sub 22 4), (.sub 22 5), (.sub 22 6), (.loc 4)] []) (.seq (.seq (.reg (.mk [3, 4, 6, 7, 33] [(.sub 18 0), (.sub 18 1), (.sub 18 2), (.sub 18 3), (.sub 18 4), (.sub 18 5), (.sub 18 6), (.sub 22 0), (.sub 22 1), (.sub 22 2), (.sub 22 3), (.sub 22 4), (.sub 22 5), (.sub 22 6), (.loc 4)] []) [⟨none, some 29, .mv none (.t 7)⟩,
 ⟨none, some 30, .fa 0 (.t 4)⟩,
 ⟨none, some 31, .load none false (.t 30)⟩,
 ⟨none, some 32, .lenSl (.t 31)⟩,
 ⟨none, some 33, .bin [] .lss (.t 29) (.t 32)⟩])
  (.cond (.t 33) .skip (.exit 0)))
  (.seq (.block 1 (.regD (.mk [3, 4, 6, 7] [(.sub 18 0), (.sub 18 1), (.sub 18 2), (.sub 18 3), (.sub 18 4), (.sub 18 5), (.sub 18 6), (.sub 22 0), (.sub 22 1), (.sub 22 2), (.sub 22 3), (.sub 22 4), (.sub 22 5), (.sub 22 6), (.loc 4)] []) [(0, 1), (0, 2), (0, 3), (1, 3), (2, 3), (0, 4), (0, 5), (0, 6), (0, 7), (1, 7), (2, 7), (3, 7), (4, 7), (5, 7), (6, 7), (0, 8), (1, 8), (3, 8), (4, 8), (5, 8), (0, 9), (1, 9), (2, 9), (3, 9), (4, 9), (5, 9), (6, 9), (7, 9), (8, 9), (0, 10), (1, 10), (2, 10), (3, 10), (4, 10), (5, 10), (6, 10), (0, 11), (1, 11), (2, 11), (3, 11), (4, 11), (5, 11), (6, 11), (0, 12), (1, 12), (3, 12), (4, 12), (5, 12)] [⟨none, some 36, .mv none (.t 6)⟩,
 ⟨none, some 37, .fa 0 (.t 4)⟩,
 ⟨none, some 38, .load none false (.t 37)⟩,
 ⟨none, some 39, .mv none (.t 7)⟩,
 ⟨none, some 40, .ia (some 2) none (.t 38) (.t 39)⟩,
 ⟨none, some 41, .fa 0 (.t 40)⟩,
 ⟨none, some 42, .load none false (.t 41)⟩,
 ⟨none, some 43, .fa 0 (.t 4)⟩,
 ⟨none, some 44, .load none false (.t 43)⟩,
 ⟨none, some 45, .mv none (.t 7)⟩,
 ⟨none, some 46, .ia (some 2) none (.t 44) (.t 45)⟩,
 ⟨none, some 47, .fa 1 (.t 46)⟩,
 ⟨none, some 48, .load none false (.t 47)⟩,
 ⟨none, some 49, .call [none, none, (some 1)] none 0 18 [(.t 36), (.t 42), (.t 48)]⟩]))
  (.reg (.mk [3, 4, 6, 7] [(.sub 18 0), (.sub 18 1), (.sub 18 2), (.sub 18 3), (.sub 18 4), (.sub 18 5), (.sub 18 6), (.sub 22 0), (.sub 22 1), (.sub 22 2), (.sub 22 3), (.sub 22 4), (.sub 22 5), (.sub 22 6), (.loc 4)] []) [⟨none, some 34, .mv none (.t 7)⟩,
 ⟨none, some 35, .bin [] .add (.t 34) (.v (.int .i64 1))⟩,
 ⟨none, some 7, .mvS none (.t 35)⟩]))))))
  (.seq (.seq (.reg (.mk [3, 4, 6, 8] [(.sub 18 0), (.sub 18 1), (.sub 18 2), (.sub 18 3), (.sub 18 4), (.sub 18 5), (.sub 18 6), (.sub 22 0), (.sub 22 1), (.sub 22 2), (.sub 22 3), (.sub 22 4), (.sub 22 5), (.sub 22 6), (.loc 4)] []) [⟨none, some 50, .fa 1 (.t 4)⟩,
 ⟨none, some 51, .load none false (.t 50)⟩,
 ⟨none, some 52, .lenSl (.t 51)⟩,
 ⟨none, some 53, .bin [] .sub (.t 52) (.v (.int .i64 1))⟩,
 ⟨none, some 8, .mvS none (.t 53)⟩])
  (.block 2 (.loop (.mk [3, 4, 6, 8] [(.sub 18 0), (.sub 18 1), (.sub 18 2), (.sub 18 3), (.sub 18 4), (.sub 18 5), (.sub 18 6), (.sub 22 0), (.sub 22 1), (.sub 22 2), (.sub 22 3), (.sub 22 4), (.sub 22 5), (.sub 22 6), (.loc 4)] []) (.seq (.seq (.reg (.mk [3, 4, 6, 8, 55] [(.sub 18 0), (.sub 18 1), (.sub 18 2), (.sub 18 3), (.sub 18 4), (.sub 18 5), (.sub 18 6), (.sub 22 0), (.sub 22 1), (.sub 22 2), (.sub 22 3), (.sub 22 4), (.sub 22 5), (.sub 22 6), (.loc 4)] []) [⟨none, some 54, .mv none (.t 8)⟩,
 ⟨none, some 55, .bin [] .geq (.t 54) (.v (.int .i64 0))⟩])
  (.cond (.t 55) .skip (.exit 2)))
  (.seq (.block 3 (.regD (.mk [3, 4, 6, 8] [(.sub 18 0), (.sub 18 1), (.sub 18 2), (.sub 18 3), (.sub 18 4), (.sub 18 5), (.sub 18 6), (.sub 22 0), (.sub 22 1), (.sub 22 2), (.sub 22 3), (.sub 22 4), (.sub 22 5), (.sub 22 6), (.loc 4)] []) [(0, 1), (0, 2), (0, 3), (1, 3), (2, 3), (0, 4), (0, 5), (0, 6), (0, 7), (1, 7), (2, 7), (3, 7), (4, 7), (5, 7), (6, 7), (0, 8), (1, 8), (3, 8), (4, 8), (5, 8), (0, 9), (1, 9), (2, 9), (3, 9), (4, 9), (5, 9), (6, 9), (7, 9), (8, 9), (0, 10), (1, 10), (2, 10), (3, 10), (4, 10), (5, 10), (6, 10), (0, 11), (1, 11), (2, 11), (3, 11), (4, 11), (5, 11), (6, 11), (0, 12), (1, 12), (3, 12), (4, 12), (5, 12)] [⟨none, some 58, .mv none (.t 6)⟩,
 ⟨none, some 59, .fa 1 (.t 4)⟩,
 ⟨none, some 60, .load none false (.t 59)⟩,
 ⟨none, some 61, .mv none (.t 8)⟩,
 ⟨none, some 62, .ia (some 2) none (.t 60) (.t 61)⟩,
 ⟨none, some 63, .ia none (some (2, 1)) (.t 62) (.v (.int .i64 1))⟩,
 ⟨none, some 64, .load none false (.t 63)⟩,
 ⟨none, some 65, .fa 1 (.t 4)⟩,
 ⟨none, some 66, .load none false (.t 65)⟩,
 ⟨none, some 67, .mv none (.t 8)⟩,
 ⟨none, some 68, .ia (some 2) none (.t 66) (.t 67)⟩,
 ⟨none, some 69, .ia none (some (2, 1)) (.t 68) (.v (.int .i64 0))⟩,
 ⟨none, some 70, .load none false (.t 69)⟩,
 ⟨none, some 71, .call [none, none, none] none 0 25 [(.t 58), (.t 64), (.t 70)]⟩]))
  (.reg (.mk [3, 4, 6, 8] [(.sub 18 0), (.sub 18 1), (.sub 18 2), (.sub 18 3), (.sub 18 4), (.sub 18 5), (.sub 18 6), (.sub 22 0), (.sub 22 1), (.sub 22 2), (.sub 22 3), (.sub 22 4), (.sub 22 5), (.sub 22 6), (.loc 4)] []) [⟨none, some 56, .mv none (.t 8)⟩,
 ⟨none, some 57, .bin [] .sub (.t 56) (.v (.int .i64 1))⟩,
 ⟨none, some 8, .mvS none (.t 57)⟩]))))))
  (.seq (.seq (.reg (.mk [3, 4, 6, 9] [(.sub 18 0), (.sub 18 1), (.sub 18 2), (.sub 18 3), (.sub 18 4), (.sub 18 5), (.sub 18 6), (.sub 22 0), (.sub 22 1), (.sub 22 2), (.sub 22 3), (.sub 22 4), (.sub 22 5), (.sub 22 6), (.loc 4)] []) [⟨none, some 9, .mvS none (.v (.int .i64 0))⟩])
  (.block 4 (.loop (.mk [3, 4, 6, 9] [(.sub 18 0), (.sub 18 1), (.sub 18 2), (.sub 18 3), (.sub 18 4), (.sub 18 5), (.sub 18 6), (.sub 22 0), (.sub 22 1), (.sub 22 2), (.sub 22 3), (.sub 22 4), (.sub 22 5), (.sub 22 6), (.loc 4)] []) (.seq (.seq (.reg (.mk [3, 4, 6, 9, 76] [(.sub 18 0), (.sub 18 1), (.sub 18 2), (.sub 18 3), (.sub 18 4), (.sub 18 5), (.sub 18 6), (.sub 22 0), (.sub 22 1), (.sub 22 2), (.sub 22 3), (.sub 22 4), (.sub 22 5), (.sub 22 6), (.loc 4)] []) [⟨none, some 72, .mv none (.t 9)⟩,
 ⟨none, some 73, .fa 0 (.t 4)⟩,
 ⟨none, some 74, .load none false (.t 73)⟩,
 ⟨none, some 75, .lenSl (.t 74)⟩,
 ⟨none, some 76, .bin [] .lss (.t 72) (.t 75)⟩])
  (.cond (.t 76) .skip (.exit 4)))
  (.seq (.block 5 (.seq (.reg (.mk [3, 4, 6, 9, 10, 11] [(.sub 18 0), (.sub 18 1), (.sub 18 2), (.sub 18 3), (.sub 18 4), (.sub 18 5), (.sub 18 6), (.sub 22 0), (.sub 22 1), (.sub 22 2), (.sub 22 3), (.sub 22 4), (.sub 22 5), (.sub 22 6), (.loc 4)] []) [⟨none, some 80, .mv none (.t 3)⟩,
 ⟨none, some 81, .mv none (.t 9)⟩,
 ⟨none, some 82, .call [none, none] none 0 22 [(.t 80), (.t 81)]⟩,
 ⟨none, some 79, .mv none (.t 82)⟩,
 ⟨none, some 83, .ext (.t 79) 0⟩,
 ⟨none, some 84, .ext (.t 79) 1⟩,
 ⟨none, some 10, .mvS none (.t 83)⟩,
 ⟨none, some 11, .mvS none (.t 84)⟩])
  (.seq (.reg (.mk [3, 4, 6, 9, 10, 11, 12, 13] [(.sub 18 0), (.sub 18 1), (.sub 18 2), (.sub 18 3), (.sub 18 4), (.sub 18 5), (.sub 18 6), (.sub 22 0), (.sub 22 1), (.sub 22 2), (.sub 22 3), (.sub 22 4), (.sub 22 5), (.sub 22 6), (.loc 4)] []) [⟨none, some 86, .mv none (.t 6)⟩,
 ⟨none, some 87, .mv none (.t 9)⟩,
 ⟨none, some 88, .call [none, none] none 0 22 [(.t 86), (.t 87)]⟩,
 ⟨none, some 85, .mv none (.t 88)⟩,
 ⟨none, some 89, .ext (.t 85) 0⟩,
 ⟨none, some 90, .ext (.t 85) 1⟩,
 ⟨none, some 12, .mvS none (.t 89)⟩,
 ⟨none, some 13, .mvS none (.t 90)⟩])
  (.seq (.reg (.mk [3, 4, 6, 9, 98] [(.sub 18 0), (.sub 18 1), (.sub 18 2), (.sub 18 3), (.sub 18 4), (.sub 18 5), (.sub 18 6), (.sub 22 0), (.sub 22 1), (.sub 22 2), (.sub 22 3), (.sub 22 4), (.sub 22 5), (.sub 22 6), (.loc 4)] []) [⟨none, some 91, .mv none (.t 10)⟩,
 ⟨none, some 92, .mv none (.t 12)⟩,
 ⟨none, some 93, .bin [] .neq (.t 91) (.t 92)⟩,
 ⟨none, some 94, .mv none (.t 93)⟩,
 ⟨some (94, false), some 95, .mv none (.t 11)⟩,
 ⟨some (94, false), some 96, .mv none (.t 13)⟩,
 ⟨some (94, false), some 97, .bin [] .neq (.t 95) (.t 96)⟩,
 ⟨none, some 98, .pick (.t 94) (.v (.bool true)) (.t 97)⟩])
  (.cond (.t 98) (.seq (.reg (.mk [2] [] []) [⟨none, some 2, .mvS none (.v (.bool false))⟩])
  .ret) .skip)))))
  (.reg (.mk [3, 4, 6, 9] [(.sub 18 0), (.sub 18 1), (.sub 18 2), (.sub 18 3), (.sub 18 4), (.sub 18 5), (.sub 18 6), (.sub 22 0), (.sub 22 1), (.sub 22 2), (.sub 22 3), (.sub 22 4), (.sub 22 5), (.sub 22 6), (.loc 4)] []) [⟨none, some 77, .mv none (.t 9)⟩,
 ⟨none, some 78, .bin [] .add (.t 77) (.v (.int .i64 1))⟩,
 ⟨none, some 9, .mvS none (.t 78)⟩]))))))
  (.seq (.reg (.mk [2] [] []) [⟨none, some 2, .mvS none (.v (.bool true))⟩])
  .ret)))))))))
theorem k7 {B : Heap} {args : List V} {objs : List Ob} {r : V} {objs' news : List Ob} (h : acwp (COk Tryd.prog B) c7 (initSt args objs) (EndA (tabT tab) [.tmp 2] objs.length (mvOf args objs) [] r objs' news)) (hn : args.length ≤ Tryd.f7.ntmps := by exact Nat.le_of_ble_eq_true rfl) (hlen : objs'.length = objs.length := by rfl) : Ok B 7 args objs r objs' news :=
  callMB tabOk mixed Tryd.func7 Tryd.call7 (hints [] [([0], []), ([], []), ([0, 15], []), ([], []), ([2], []), ([], []), ([3, 4, 5], [.sub 18 0, .sub 18 1, .sub 18 2, .sub 18 3, .sub 18 4, .sub 18 5, .sub 18 6, .loc 4]), ([], []), ([3, 4, 5, 6], [.sub 18 0, .sub 18 1, .sub 18 2, .sub 18 3, .sub 18 4, .sub 18 5, .sub 18 6, .sub 22 0, .sub 22 1, .sub 22 2, .sub 22 3, .sub 22 4, .sub 22 5, .sub 22 6, .loc 4]), ([], []), ([3, 4, 6, 28], [.sub 18 0, .sub 18 1, .sub 18 2, .sub 18 3, .sub 18 4, .sub 18 5, .sub 18 6, .sub 22 0, .sub 22 1, .sub 22 2, .sub 22 3, .sub 22 4, .sub 22 5, .sub 22 6, .loc 4]), ([], []), ([2], []), ([], []), ([3, 4, 6, 7], [.sub 18 0, .sub 18 1, .sub 18 2, .sub 18 3, .sub 18 4, .sub 18 5, .sub 18 6, .sub 22 0, .sub 22 1, .sub 22 2, .sub 22 3, .sub 22 4, .sub 22 5, .sub 22 6, .loc 4]), ([], []), ([3, 4, 6, 7, 33], [.sub 18 0, .sub 18 1, .sub 18 2, .sub 18 3, .sub 18 4, .sub 18 5, .sub 18 6, .sub 22 0, .sub 22 1, .sub 22 2, .sub 22 3, .sub 22 4, .sub 22 5, .sub 22 6, .loc 4]), ([3, 4, 6, 7], [.sub 18 0, .sub 18 1, .sub 18 2, .sub 18 3, .sub 18 4, .sub 18 5, .sub 18 6, .sub 22 0, .sub 22 1, .sub 22 2, .sub 22 3, .sub 22 4, .sub 22 5, .sub 22 6, .loc 4]), ([3, 4, 6, 7], [.sub 18 0, .sub 18 1, .sub 18 2, .sub 18 3, .sub 18 4, .sub 18 5, .sub 18 6, .sub 22 0, .sub 22 1, .sub 22 2, .sub 22 3, .sub 22 4, .sub 22 5, .sub 22 6, .loc 4]), ([], []), ([3, 4, 6, 7], [.sub 18 0, .sub 18 1, .sub 18 2, .sub 18 3, .sub 18 4, .sub 18 5, .sub 18 6, .sub 22 0, .sub 22 1, .sub 22 2, .sub 22 3, .sub 22 4, .sub 22 5, .sub 22 6, .loc 4]), ([], []), ([3, 4, 6, 8], [.sub 18 0, .sub 18 1, .sub 18 2, .sub 18 3, .sub 18 4, .sub 18 5, .sub 18 6, .sub 22 0, .sub 22 1, .sub 22 2, .sub 22 3, .sub 22 4, .sub 22 5, .sub 22 6, .loc 4]), ([], []), ([3, 4, 6, 8, 55], [.sub 18 0, .sub 18 1, .sub 18 2, .sub 18 3, .sub 18 4, .sub 18 5, .sub 18 6, .sub 22 0, .sub 22 1, .sub 22 2, .sub 22 3, .sub 22 4, .sub 22 5, .sub 22 6, .loc 4]), ([3, 4, 6, 8], [.sub 18 0, .sub 18 1, .sub 18 2, .sub 18 3, .sub 18 4, .sub 18 5, .sub 18 6, .sub 22 0, .sub 22 1, .sub 22 2, .sub 22 3, .sub 22 4, .sub 22 5, .sub 22 6, .loc 4]), ([3, 4, 6, 8], [.sub 18 0, .sub 18 1, .sub 18 2, .sub 18 3, .sub 18 4, .sub 18 5, .sub 18 6, .sub 22 0, .sub 22 1, .sub 22 2, .sub 22 3, .sub 22 4, .sub 22 5, .sub 22 6, .loc 4]), ([], []), ([3, 4, 6, 8], [.sub 18 0, .sub 18 1, .sub 18 2, .sub 18 3, .sub 18 4, .sub 18 5, .sub 18 6, .sub 22 0, .sub 22 1, .sub 22 2, .sub 22 3, .sub 22 4, .sub 22 5, .sub 22 6, .loc 4]), ([], []), ([3, 4, 6, 9], [.sub 18 0, .sub 18 1, .sub 18 2, .sub 18 3, .sub 18 4, .sub 18 5, .sub 18 6, .sub 22 0, .sub 22 1, .sub 22 2, .sub 22 3, .sub 22 4, .sub 22 5, .sub 22 6, .loc 4]), ([], []), ([3, 4, 6, 9, 76], [.sub 18 0, .sub 18 1, .sub 18 2, .sub 18 3, .sub 18 4, .sub 18 5, .sub 18 6, .sub 22 0, .sub 22 1, .sub 22 2, .sub 22 3, .sub 22 4, .sub 22 5, .sub 22 6, .loc 4]), ([3, 4, 6, 9], [.sub 18 0, .sub 18 1, .sub 18 2, .sub 18 3, .sub 18 4, .sub 18 5, .sub 18 6, .sub 22 0, .sub 22 1, .sub 22 2, .sub 22 3, .sub 22 4, .sub 22 5, .sub 22 6, .loc 4]), ([3, 4, 6, 9], [.sub 18 0, .sub 18 1, .sub 18 2, .sub 18 3, .sub 18 4, .sub 18 5, .sub 18 6, .sub 22 0, .sub 22 1, .sub 22 2, .sub 22 3, .sub 22 4, .sub 22 5, .sub 22 6, .loc 4]), ([], []), ([3, 4, 6, 9, 10, 11], [.sub 18 0, .sub 18 1, .sub 18 2, .sub 18 3, .sub 18 4, .sub 18 5, .sub 18 6, .sub 22 0, .sub 22 1, .sub 22 2, .sub 22 3, .sub 22 4, .sub 22 5, .sub 22 6, .loc 4]), ([], []), ([3, 4, 6, 9, 10, 11, 12, 13], [.sub 18 0, .sub 18 1, .sub 18 2, .sub 18 3, .sub 18 4, .sub 18 5, .sub 18 6, .sub 22 0, .sub 22 1, .sub 22 2, .sub 22 3, .sub 22 4, .sub 22 5, .sub 22 6, .loc 4]), ([], []), ([3, 4, 6, 9, 98], [.sub 18 0, .sub 18 1, .sub 18 2, .sub 18 3, .sub 18 4, .sub 18 5, .sub 18 6, .sub 22 0, .sub 22 1, .sub 22 2, .sub 22 3, .sub 22 4, .sub 22 5, .sub 22 6, .loc 4]), ([], []), ([2], []), ([], []), ([2], []), ([], [])]) ⟨[2], [], [], [(12, 7), (24, 7)]⟩ (by kernel_rfl) rfl rfl (by decide) hn hlen h
end Go.Proofs.YtjabgfnljbnmmaaDoor
