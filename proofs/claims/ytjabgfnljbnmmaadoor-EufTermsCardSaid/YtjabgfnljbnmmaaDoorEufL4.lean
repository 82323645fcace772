/- A part of the proof of a law of this seat: no condition. -/
import Derived.Test.YtjabgfnljbnmmaaDoorT1e
import Derived.Test.YtjabgfnljbnmmaaDoorA8
namespace Go.Proofs.YtjabgfnljbnmmaaDoor
open Go.Ax
def c4 : AC :=
  (.seq (.reg (.mk [0, 1] [] []) [⟨none, some 4, .mvS none (.v (.bool false))⟩])
  (.seq (.seq (.reg (.mk [0, 1, 19] [] []) [⟨none, some 18, .call [] none 0 11 []⟩,
 ⟨none, some 19, .un .not (.t 18)⟩])
  (.cond (.t 19) (.seq (.reg (.mk [4] [] []) [⟨none, some 4, .mvS none (.v (.bool false))⟩])
  .ret) .skip))
  (.seq (.reg (.mk [1, 5, 6, 7] [(.sub 22 0), (.sub 22 1), (.sub 22 2), (.sub 22 3), (.sub 22 4), (.sub 22 5), (.sub 22 6), (.loc 6)] []) [⟨none, some 21, .mv (some 5) (.t 0)⟩,
 ⟨none, some 22, .call [(some 5)] none 7 12 [(.t 21)]⟩,
 ⟨none, some 20, .mv none (.t 22)⟩,
 ⟨none, some 23, .ext (.t 20) 0⟩,
 ⟨none, some 24, .ext (.t 20) 1⟩,
 ⟨none, some 25, .ext (.t 20) 2⟩,
 ⟨none, some 6, .alloc [(.own 2 []), (.own 2 [])]⟩,
 ⟨none, some 5, .mvS none (.t 23)⟩,
 ⟨none, none, .store 2 none (.t 6) (.t 24)⟩,
 ⟨none, some 7, .mvS none (.t 25)⟩])
  (.seq (.seq (.reg (.mk [1, 5, 6, 27] [(.sub 22 0), (.sub 22 1), (.sub 22 2), (.sub 22 3), (.sub 22 4), (.sub 22 5), (.sub 22 6), (.loc 6)] []) [⟨none, some 26, .mv none (.t 7)⟩,
 ⟨none, some 27, .un .not (.t 26)⟩])
  (.cond (.t 27) (.seq (.reg (.mk [4] [] []) [⟨none, some 4, .mvS none (.v (.bool false))⟩])
  .ret) .skip))
  (.seq (.seq (.reg (.mk [1, 5, 6, 8, 9] [(.sub 22 0), (.sub 22 1), (.sub 22 2), (.sub 22 3), (.sub 22 4), (.sub 22 5), (.sub 22 6), (.sub 31 0), (.loc 6), (.loc 8)] []) [⟨none, some 29, .mv none (.t 5)⟩,
 ⟨none, some 30, .mv none (.t 1)⟩,
 ⟨none, some 31, .call [none, none] none 1 17 [(.t 29), (.t 30)]⟩,
 ⟨none, some 28, .mv none (.t 31)⟩,
 ⟨none, some 32, .ext (.t 28) 0⟩,
 ⟨none, some 33, .ext (.t 28) 1⟩,
 ⟨none, some 8, .alloc [(.str []), (.own 1 [])]⟩,
 ⟨none, none, .store 2 none (.t 8) (.t 32)⟩,
 ⟨none, some 9, .mvS none (.t 33)⟩])
  (.seq (.reg (.mk [5, 6, 53] [(.sub 22 0), (.sub 22 1), (.sub 22 2), (.sub 22 3), (.sub 22 4), (.sub 22 5), (.sub 22 6), (.loc 6)] []) [⟨none, some 34, .mv none (.t 9)⟩,
 ⟨none, some 35, .load (some 2) false (.t 6)⟩,
 ⟨none, some 36, .mv none (.t 1)⟩,
 ⟨none, some 37, .call [none, none] none 0 14 [(.t 35), (.t 36)]⟩,
 ⟨none, some 38, .bin [1] .neq (.t 34) (.t 37)⟩,
 ⟨none, some 39, .mv none (.t 38)⟩,
 ⟨some (39, false), some 40, .mv none (.t 9)⟩,
 ⟨some (39, false), some 41, .un .not (.t 40)⟩,
 ⟨some (39, false), some 42, .mv none (.t 41)⟩,
 ⟨some (42, true), some 43, .fa 0 (.t 8)⟩,
 ⟨some (42, true), some 44, .load none false (.t 43)⟩,
 ⟨some (42, true), some 45, .bin [] .neq (.t 44) (.v (.str []))⟩,
 ⟨some (42, true), some 46, .mv none (.t 45)⟩,
 ⟨some (46, false), some 47, .fa 1 (.t 8)⟩,
 ⟨some (46, false), some 48, .load none false (.t 47)⟩,
 ⟨some (46, false), some 49, .lenSl (.t 48)⟩,
 ⟨some (46, false), some 50, .bin [] .neq (.t 49) (.v (.int .i64 0))⟩,
 ⟨some (42, true), some 51, .pick (.t 46) (.v (.bool true)) (.t 50)⟩,
 ⟨some (39, false), some 52, .pick (.t 42) (.t 51) (.v (.bool false))⟩,
 ⟨none, some 53, .pick (.t 39) (.v (.bool true)) (.t 52)⟩])
  (.cond (.t 53) (.seq (.reg (.mk [4] [] []) [⟨none, some 4, .mvS none (.v (.bool false))⟩])
  .ret) .skip)))
  (.seq (.seq (.reg (.mk [5, 6, 10] [(.sub 22 0), (.sub 22 1), (.sub 22 2), (.sub 22 3), (.sub 22 4), (.sub 22 5), (.sub 22 6), (.loc 6)] []) [⟨none, some 10, .mvS none (.v (.int .i64 0))⟩])
  (.block 0 (.loop (.mk [5, 6, 10] [(.sub 22 0), (.sub 22 1), (.sub 22 2), (.sub 22 3), (.sub 22 4), (.sub 22 5), (.sub 22 6), (.loc 6)] []) (.seq (.seq (.reg (.mk [5, 6, 10, 58] [(.sub 22 0), (.sub 22 1), (.sub 22 2), (.sub 22 3), (.sub 22 4), (.sub 22 5), (.sub 22 6), (.loc 6)] []) [⟨none, some 54, .mv none (.t 10)⟩,
 ⟨none, some 55, .fa 0 (.t 6)⟩,
 ⟨none, some 56, .load none false (.t 55)⟩,
 ⟨none, some 57, .lenSl (.t 56)⟩,
 ⟨none, some 58, .bin [] .lss (.t 54) (.t 57)⟩])
  (.cond (.t 58) .skip (.exit 0)))
  (.seq (.block 1 (.seq (.reg (.mk [5, 6, 10, 11, 12] [(.sub 22 0), (.sub 22 1), (.sub 22 2), (.sub 22 3), (.sub 22 4), (.sub 22 5), (.sub 22 6), (.sub 64 0), (.loc 6), (.loc 11)] []) [⟨none, some 62, .mv none (.t 5)⟩,
 ⟨none, some 63, .mv none (.t 10)⟩,
 ⟨none, some 64, .call [none, none] none 1 17 [(.t 62), (.t 63)]⟩,
 ⟨none, some 61, .mv none (.t 64)⟩,
 ⟨none, some 65, .ext (.t 61) 0⟩,
 ⟨none, some 66, .ext (.t 61) 1⟩,
 ⟨none, some 11, .alloc [(.str []), (.own 1 [])]⟩,
 ⟨none, none, .store 2 none (.t 11) (.t 65)⟩,
 ⟨none, some 12, .mvS none (.t 66)⟩])
  (.seq (.regD (.mk [5, 6, 10, 11, 12, 13, 14] [(.sub 22 0), (.sub 22 1), (.sub 22 2), (.sub 22 3), (.sub 22 4), (.sub 22 5), (.sub 22 6), (.sub 64 0), (.loc 6), (.loc 11)] []) [(0, 1), (0, 2), (0, 3), (1, 3), (2, 3), (0, 4), (0, 5), (0, 6), (0, 7), (1, 7), (2, 7), (3, 7), (4, 7), (5, 7), (6, 7), (0, 8), (1, 8), (3, 8), (4, 8), (5, 8), (0, 9), (1, 9), (2, 9), (3, 9), (4, 9), (5, 9), (6, 9), (7, 9), (8, 9), (0, 10), (1, 10), (2, 10), (3, 10), (4, 10), (5, 10), (6, 10), (0, 11), (1, 11), (2, 11), (3, 11), (4, 11), (5, 11), (6, 11), (0, 12), (1, 12), (3, 12), (4, 12), (5, 12), (15, 16), (16, 17)] [⟨none, some 68, .mv none (.t 5)⟩,
 ⟨none, some 69, .fa 0 (.t 6)⟩,
 ⟨none, some 70, .load none false (.t 69)⟩,
 ⟨none, some 71, .mv none (.t 10)⟩,
 ⟨none, some 72, .ia (some 2) none (.t 70) (.t 71)⟩,
 ⟨none, some 73, .fa 0 (.t 72)⟩,
 ⟨none, some 74, .load none false (.t 73)⟩,
 ⟨none, some 75, .fa 0 (.t 6)⟩,
 ⟨none, some 76, .load none false (.t 75)⟩,
 ⟨none, some 77, .mv none (.t 10)⟩,
 ⟨none, some 78, .ia (some 2) none (.t 76) (.t 77)⟩,
 ⟨none, some 79, .fa 1 (.t 78)⟩,
 ⟨none, some 80, .load none false (.t 79)⟩,
 ⟨none, some 81, .call [none, none, (some 1)] none 0 18 [(.t 68), (.t 74), (.t 80)]⟩,
 ⟨none, some 67, .mv none (.t 81)⟩,
 ⟨none, some 82, .ext (.t 67) 0⟩,
 ⟨none, some 83, .ext (.t 67) 1⟩,
 ⟨none, some 13, .mvS none (.t 82)⟩,
 ⟨none, some 14, .mvS none (.t 83)⟩])
  (.seq (.seq (.regD (.mk [5, 6, 10, 11, 117] [(.sub 22 0), (.sub 22 1), (.sub 22 2), (.sub 22 3), (.sub 22 4), (.sub 22 5), (.sub 22 6), (.sub 64 0), (.loc 6), (.loc 11)] []) [(3, 5), (4, 5), (3, 6), (4, 6), (3, 7), (4, 7), (5, 7), (6, 7), (3, 8), (4, 8), (3, 9), (4, 9), (3, 10), (4, 10), (14, 16), (15, 16), (14, 17), (15, 17), (14, 18), (15, 18), (16, 18), (17, 18), (14, 19), (15, 19), (14, 20), (15, 20), (14, 21), (15, 21), (26, 27)] [⟨none, some 84, .mv none (.t 12)⟩,
 ⟨none, some 85, .un .not (.t 84)⟩,
 ⟨none, some 86, .mv none (.t 85)⟩,
 ⟨some (86, false), some 87, .fa 0 (.t 11)⟩,
 ⟨some (86, false), some 88, .load none false (.t 87)⟩,
 ⟨some (86, false), some 89, .fa 0 (.t 6)⟩,
 ⟨some (86, false), some 90, .load none false (.t 89)⟩,
 ⟨some (86, false), some 91, .mv none (.t 10)⟩,
 ⟨some (86, false), some 92, .ia (some 2) none (.t 90) (.t 91)⟩,
 ⟨some (86, false), some 93, .fa 0 (.t 92)⟩,
 ⟨some (86, false), some 94, .load none false (.t 93)⟩,
 ⟨some (86, false), some 95, .bin [] .neq (.t 88) (.t 94)⟩,
 ⟨none, some 96, .pick (.t 86) (.v (.bool true)) (.t 95)⟩,
 ⟨none, some 97, .mv none (.t 96)⟩,
 ⟨some (97, false), some 98, .fa 1 (.t 11)⟩,
 ⟨some (97, false), some 99, .load none false (.t 98)⟩,
 ⟨some (97, false), some 100, .fa 0 (.t 6)⟩,
 ⟨some (97, false), some 101, .load none false (.t 100)⟩,
 ⟨some (97, false), some 102, .mv none (.t 10)⟩,
 ⟨some (97, false), some 103, .ia (some 2) none (.t 101) (.t 102)⟩,
 ⟨some (97, false), some 104, .fa 1 (.t 103)⟩,
 ⟨some (97, false), some 105, .load none false (.t 104)⟩,
 ⟨some (97, false), some 106, .call [(some 1), (some 1)] none 0 19 [(.t 99), (.t 105)]⟩,
 ⟨some (97, false), some 107, .un .not (.t 106)⟩,
 ⟨none, some 108, .pick (.t 97) (.v (.bool true)) (.t 107)⟩,
 ⟨none, some 109, .mv none (.t 108)⟩,
 ⟨some (109, false), some 110, .mv none (.t 13)⟩,
 ⟨some (109, false), some 111, .mv none (.t 10)⟩,
 ⟨some (109, false), some 112, .bin [] .neq (.t 110) (.t 111)⟩,
 ⟨none, some 113, .pick (.t 109) (.v (.bool true)) (.t 112)⟩,
 ⟨none, some 114, .mv none (.t 113)⟩,
 ⟨some (114, false), some 115, .mv none (.t 14)⟩,
 ⟨some (114, false), some 116, .bin [] .neq (.t 115) (.v (.int .i64 0))⟩,
 ⟨none, some 117, .pick (.t 114) (.v (.bool true)) (.t 116)⟩])
  (.cond (.t 117) (.seq (.reg (.mk [4] [] []) [⟨none, some 4, .mvS none (.v (.bool false))⟩])
  .ret) .skip))
  (.seq (.seq (.reg (.mk [5, 6, 10, 11, 15] [(.sub 22 0), (.sub 22 1), (.sub 22 2), (.sub 22 3), (.sub 22 4), (.sub 22 5), (.sub 22 6), (.sub 64 0), (.loc 6), (.loc 11)] []) [⟨none, some 15, .mvS none (.v (.int .i64 0))⟩])
  (.block 2 (.loop (.mk [5, 6, 10, 11, 15] [(.sub 22 0), (.sub 22 1), (.sub 22 2), (.sub 22 3), (.sub 22 4), (.sub 22 5), (.sub 22 6), (.sub 64 0), (.loc 6), (.loc 11)] []) (.seq (.seq (.reg (.mk [5, 6, 10, 11, 15, 122] [(.sub 22 0), (.sub 22 1), (.sub 22 2), (.sub 22 3), (.sub 22 4), (.sub 22 5), (.sub 22 6), (.sub 64 0), (.loc 6), (.loc 11)] []) [⟨none, some 118, .mv none (.t 15)⟩,
 ⟨none, some 119, .fa 1 (.t 11)⟩,
 ⟨none, some 120, .load none false (.t 119)⟩,
 ⟨none, some 121, .lenSl (.t 120)⟩,
 ⟨none, some 122, .bin [] .lss (.t 118) (.t 121)⟩])
  (.cond (.t 122) .skip (.exit 2)))
  (.seq (.block 3 (.reg (.mk [5, 6, 10, 11, 15] [(.sub 22 0), (.sub 22 1), (.sub 22 2), (.sub 22 3), (.sub 22 4), (.sub 22 5), (.sub 22 6), (.sub 64 0), (.loc 6), (.loc 11)] []) [⟨none, some 125, .fa 1 (.t 11)⟩,
 ⟨none, some 126, .load none false (.t 125)⟩,
 ⟨none, some 127, .mv none (.t 15)⟩,
 ⟨none, some 128, .ia (some 1) none (.t 126) (.t 127)⟩,
 ⟨none, none, .store 1 none (.t 128) (.v (.int .i64 (-7)))⟩]))
  (.reg (.mk [5, 6, 10, 11, 15] [(.sub 22 0), (.sub 22 1), (.sub 22 2), (.sub 22 3), (.sub 22 4), (.sub 22 5), (.sub 22 6), (.sub 64 0), (.loc 6), (.loc 11)] []) [⟨none, some 123, .mv none (.t 15)⟩,
 ⟨none, some 124, .bin [] .add (.t 123) (.v (.int .i64 1))⟩,
 ⟨none, some 15, .mvS none (.t 124)⟩]))))))
  (.seq (.reg (.mk [5, 6, 10, 16] [(.sub 22 0), (.sub 22 1), (.sub 22 2), (.sub 22 3), (.sub 22 4), (.sub 22 5), (.sub 22 6), (.sub 132 0), (.loc 6), (.loc 16)] []) [⟨none, some 130, .mv none (.t 5)⟩,
 ⟨none, some 131, .mv none (.t 10)⟩,
 ⟨none, some 132, .call [none, none] none 1 17 [(.t 130), (.t 131)]⟩,
 ⟨none, some 129, .mv none (.t 132)⟩,
 ⟨none, some 133, .ext (.t 129) 0⟩,
 ⟨none, some 134, .ext (.t 129) 1⟩,
 ⟨none, some 16, .alloc [(.str []), (.own 1 [])]⟩,
 ⟨none, none, .store 2 none (.t 16) (.t 133)⟩,
 ⟨none, some 17, .mvS none (.t 134)⟩])
  (.seq (.regD (.mk [5, 6, 10, 144] [(.sub 22 0), (.sub 22 1), (.sub 22 2), (.sub 22 3), (.sub 22 4), (.sub 22 5), (.sub 22 6), (.loc 6)] []) [(0, 2), (1, 2), (0, 3), (0, 4), (1, 4), (2, 4), (3, 4), (0, 5), (1, 5), (0, 6), (1, 6), (0, 7)] [⟨none, some 135, .fa 1 (.t 16)⟩,
 ⟨none, some 136, .load none false (.t 135)⟩,
 ⟨none, some 137, .fa 0 (.t 6)⟩,
 ⟨none, some 138, .load none false (.t 137)⟩,
 ⟨none, some 139, .mv none (.t 10)⟩,
 ⟨none, some 140, .ia (some 2) none (.t 138) (.t 139)⟩,
 ⟨none, some 141, .fa 1 (.t 140)⟩,
 ⟨none, some 142, .load none false (.t 141)⟩,
 ⟨none, some 143, .call [(some 1), (some 1)] none 0 19 [(.t 136), (.t 142)]⟩,
 ⟨none, some 144, .un .not (.t 143)⟩])
  (.cond (.t 144) (.seq (.reg (.mk [4] [] []) [⟨none, some 4, .mvS none (.v (.bool false))⟩])
  .ret) .skip))))))))
  (.reg (.mk [5, 6, 10] [(.sub 22 0), (.sub 22 1), (.sub 22 2), (.sub 22 3), (.sub 22 4), (.sub 22 5), (.sub 22 6), (.loc 6)] []) [⟨none, some 59, .mv none (.t 10)⟩,
 ⟨none, some 60, .bin [] .add (.t 59) (.v (.int .i64 1))⟩,
 ⟨none, some 10, .mvS none (.t 60)⟩]))))))
  (.seq (.regD (.mk [4] [] []) [(0, 2), (1, 2), (0, 3), (1, 3), (0, 4), (1, 4)] [⟨none, some 145, .mv none (.t 5)⟩,
 ⟨none, some 146, .call [none] none 0 20 [(.t 145)]⟩,
 ⟨none, some 147, .fa 0 (.t 6)⟩,
 ⟨none, some 148, .load none false (.t 147)⟩,
 ⟨none, some 149, .lenSl (.t 148)⟩,
 ⟨none, some 150, .bin [] .eql (.t 146) (.t 149)⟩,
 ⟨none, some 4, .mvS none (.t 150)⟩])
  .ret)))))))
theorem k4 {B : Heap} {args : List V} {objs : List Ob} {r : V} {objs' news : List Ob} (h : acwp (COk Tryd.prog B) c4 (initSt args objs) (EndA (tabT tab) [.tmp 4] objs.length (mvOf args objs) [] r objs' news)) (hn : args.length ≤ Tryd.f4.ntmps := by exact Nat.le_of_ble_eq_true rfl) (hlen : objs'.length = objs.length := by rfl) : Ok B 4 args objs r objs' news :=
  callMB tabOk mixed Tryd.func4 Tryd.call4 (hints [] [([0, 1], []), ([], []), ([0, 1, 19], []), ([], []), ([4], []), ([], []), ([1, 5, 6, 7], [.sub 22 0, .sub 22 1, .sub 22 2, .sub 22 3, .sub 22 4, .sub 22 5, .sub 22 6, .loc 6]), ([], []), ([1, 5, 6, 27], [.sub 22 0, .sub 22 1, .sub 22 2, .sub 22 3, .sub 22 4, .sub 22 5, .sub 22 6, .loc 6]), ([], []), ([4], []), ([], []), ([1, 5, 6, 8, 9], [.sub 22 0, .sub 22 1, .sub 22 2, .sub 22 3, .sub 22 4, .sub 22 5, .sub 22 6, .sub 31 0, .loc 6, .loc 8]), ([], []), ([5, 6, 53], [.sub 22 0, .sub 22 1, .sub 22 2, .sub 22 3, .sub 22 4, .sub 22 5, .sub 22 6, .loc 6]), ([], []), ([4], []), ([], []), ([5, 6, 10], [.sub 22 0, .sub 22 1, .sub 22 2, .sub 22 3, .sub 22 4, .sub 22 5, .sub 22 6, .loc 6]), ([], []), ([5, 6, 10, 58], [.sub 22 0, .sub 22 1, .sub 22 2, .sub 22 3, .sub 22 4, .sub 22 5, .sub 22 6, .loc 6]), ([5, 6, 10], [.sub 22 0, .sub 22 1, .sub 22 2, .sub 22 3, .sub 22 4, .sub 22 5, .sub 22 6, .loc 6]), ([5, 6, 10], [.sub 22 0, .sub 22 1, .sub 22 2, .sub 22 3, .sub 22 4, .sub 22 5, .sub 22 6, .loc 6]), ([], []), ([5, 6, 10, 11, 12], [.sub 22 0, .sub 22 1, .sub 22 2, .sub 22 3, .sub 22 4, .sub 22 5, .sub 22 6, .sub 64 0, .loc 6, .loc 11]), ([], []), ([5, 6, 10, 11, 12, 13, 14], [.sub 22 0, .sub 22 1, .sub 22 2, .sub 22 3, .sub 22 4, .sub 22 5, .sub 22 6, .sub 64 0, .loc 6, .loc 11]), ([], []), ([5, 6, 10, 11, 117], [.sub 22 0, .sub 22 1, .sub 22 2, .sub 22 3, .sub 22 4, .sub 22 5, .sub 22 6, .sub 64 0, .loc 6, .loc 11]), ([], []), ([4], []), ([], []), ([5, 6, 10, 11, 15], [.sub 22 0, .sub 22 1, .sub 22 2, .sub 22 3, .sub 22 4, .sub 22 5, .sub 22 6, .sub 64 0, .loc 6, .loc 11]), ([], []), ([5, 6, 10, 11, 15, 122], [.sub 22 0, .sub 22 1, .sub 22 2, .sub 22 3, .sub 22 4, .sub 22 5, .sub 22 6, .sub 64 0, .loc 6, .loc 11]), ([5, 6, 10, 11, 15], [.sub 22 0, .sub 22 1, .sub 22 2, .sub 22 3, .sub 22 4, .sub 22 5, .sub 22 6, .sub 64 0, .loc 6, .loc 11]), ([5, 6, 10, 11, 15], [.sub 22 0, .sub 22 1, .sub 22 2, .sub 22 3, .sub 22 4, .sub 22 5, .sub 22 6, .sub 64 0, .loc 6, .loc 11]), ([], []), ([5, 6, 10, 11, 15], [.sub 22 0, .sub 22 1, .sub 22 2, .sub 22 3, .sub 22 4, .sub 22 5, .sub 22 6, .sub 64 0, .loc 6, .loc 11]), ([], []), ([5, 6, 10, 16], [.sub 22 0, .sub 22 1, .sub 22 2, .sub 22 3, .sub 22 4, .sub 22 5, .sub 22 6, .sub 132 0, .loc 6, .loc 16]), ([], []), ([5, 6, 10, 144], [.sub 22 0, .sub 22 1, .sub 22 2, .sub 22 3, .sub 22 4, .sub 22 5, .sub 22 6, .loc 6]), ([], []), ([4], []), ([], []), ([4], []), ([], [])]) ⟨[4], [], [], [(12, 7), (17, 1)]⟩ (by kernel_rfl) rfl rfl (by decide) hn hlen h
end Go.Proofs.YtjabgfnljbnmmaaDoor
