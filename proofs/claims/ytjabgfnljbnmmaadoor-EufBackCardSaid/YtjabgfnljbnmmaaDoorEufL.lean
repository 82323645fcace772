/- A part of the proof of a law of this seat: no condition. -/
import Derived.Test.YtjabgfnljbnmmaaDoorT1e
import Derived.Test.YtjabgfnljbnmmaaDoorA8
namespace Go.Proofs.YtjabgfnljbnmmaaDoor
open Go.Ax
def c8 : AC :=
  (.seq (.reg (.mk [0, 1] [] []) [⟨none, some 4, .mvS none (.v (.bool false))⟩])
  (.seq (.seq (.reg (.mk [0, 1, 19] [] []) [⟨none, some 18, .call [] none 0 11 []⟩,
 ⟨none, some 19, .un .not (.t 18)⟩])
  (.cond (.t 19) (.seq (.reg (.mk [4] [] []) [⟨none, some 4, .mvS none (.v (.bool false))⟩])
  .ret) .skip))
  (.seq (.reg (.mk [1, 5, 6, 7] [(.sub 22 0), (.sub 22 1), (.sub 22 2), (.sub 22 3), (.sub 22 4), (.sub 22 5), (.sub 22 6), (.loc 6)] []) [⟨none, some 21, .mv (some 5) (.t 0)⟩,
 ⟨none, some 22, .call [(some 5)] none 7 12 [(.t 21)]⟩,
 ⟨none, some 20, .mv none (.t 22)⟩,
 ⟨none, some 23, .ext (.t 20) 0⟩,
 ⟨none, some 24, .ext (.t 20) 1⟩,
 ⟨none, some 25, .ext (.t 20) 2⟩,
 ⟨none, some 6, .alloc [(.own 2 []), (.own 2 [])]⟩,
 ⟨none, some 5, .mvS none (.t 23)⟩,
 ⟨none, none, .store 2 none (.t 6) (.t 24)⟩,
 ⟨none, some 7, .mvS none (.t 25)⟩])
  (.seq (.seq (.reg (.mk [1, 5, 6, 27] [(.sub 22 0), (.sub 22 1), (.sub 22 2), (.sub 22 3), (.sub 22 4), (.sub 22 5), (.sub 22 6), (.loc 6)] []) [⟨none, some 26, .mv none (.t 7)⟩,
 ⟨none, some 27, .un .not (.t 26)⟩])
  (.cond (.t 27) (.seq (.reg (.mk [4] [] []) [⟨none, some 4, .mvS none (.v (.bool false))⟩])
  .ret) .skip))
  (.seq (.seq (.reg (.mk [1, 5, 6, 36] [(.sub 22 0), (.sub 22 1), (.sub 22 2), (.sub 22 3), (.sub 22 4), (.sub 22 5), (.sub 22 6), (.loc 6)] []) [⟨none, some 28, .mv none (.t 1)⟩,
 ⟨none, some 29, .bin [] .lss (.t 28) (.v (.int .i64 0))⟩,
 ⟨none, some 30, .mv none (.t 29)⟩,
 ⟨some (30, false), some 31, .mv none (.t 1)⟩,
 ⟨some (30, false), some 32, .fa 1 (.t 6)⟩,
 ⟨some (30, false), some 33, .load none false (.t 32)⟩,
 ⟨some (30, false), some 34, .lenSl (.t 33)⟩,
 ⟨some (30, false), some 35, .bin [] .gtr (.t 31) (.t 34)⟩,
 ⟨none, some 36, .pick (.t 30) (.v (.bool true)) (.t 35)⟩])
  (.cond (.t 36) (.seq (.regD (.mk [4] [] []) [(0, 1), (5, 7), (6, 7), (5, 8), (6, 8), (5, 9), (6, 9)] [⟨none, some 37, .mv none (.t 5)⟩,
 ⟨none, some 38, .mv none (.t 1)⟩,
 ⟨none, some 39, .call [none, none] none 0 26 [(.t 37), (.t 38)]⟩,
 ⟨none, some 40, .bin [] .eql (.t 39) (.v (.int .i64 1))⟩,
 ⟨none, some 41, .mv none (.t 40)⟩,
 ⟨some (41, true), some 42, .mv none (.t 5)⟩,
 ⟨some (41, true), some 43, .call [none] none 0 27 [(.t 42)]⟩,
 ⟨some (41, true), some 44, .fa 1 (.t 6)⟩,
 ⟨some (41, true), some 45, .load none false (.t 44)⟩,
 ⟨some (41, true), some 46, .lenSl (.t 45)⟩,
 ⟨some (41, true), some 47, .bin [] .eql (.t 43) (.t 46)⟩,
 ⟨none, some 48, .pick (.t 41) (.t 47) (.v (.bool false))⟩,
 ⟨none, some 4, .mvS none (.t 48)⟩])
  .ret) .skip))
  (.seq (.reg (.mk [1, 5, 6, 8] [(.sub 22 0), (.sub 22 1), (.sub 22 2), (.sub 22 3), (.sub 22 4), (.sub 22 5), (.sub 22 6), (.loc 6)] []) [⟨none, some 8, .mvS (some 1) (.v .nils)⟩])
  (.seq (.seq (.reg (.mk [1, 5, 6, 8, 9] [(.sub 22 0), (.sub 22 1), (.sub 22 2), (.sub 22 3), (.sub 22 4), (.sub 22 5), (.sub 22 6), (.loc 6)] []) [⟨none, some 9, .mvS none (.v (.int .i64 0))⟩])
  (.block 0 (.loop (.mk [1, 5, 6, 8, 9] [(.sub 22 0), (.sub 22 1), (.sub 22 2), (.sub 22 3), (.sub 22 4), (.sub 22 5), (.sub 22 6), (.loc 6)] []) (.seq (.seq (.reg (.mk [1, 5, 6, 8, 9, 53] [(.sub 22 0), (.sub 22 1), (.sub 22 2), (.sub 22 3), (.sub 22 4), (.sub 22 5), (.sub 22 6), (.loc 6)] []) [⟨none, some 49, .mv none (.t 9)⟩,
 ⟨none, some 50, .fa 0 (.t 6)⟩,
 ⟨none, some 51, .load none false (.t 50)⟩,
 ⟨none, some 52, .lenSl (.t 51)⟩,
 ⟨none, some 53, .bin [] .lss (.t 49) (.t 52)⟩])
  (.cond (.t 53) .skip (.exit 0)))
  (.seq (.block 1 (.seq (.reg (.mk [1, 5, 6, 8, 9, 10] [(.sub 22 0), (.sub 22 1), (.sub 22 2), (.sub 22 3), (.sub 22 4), (.sub 22 5), (.sub 22 6), (.loc 6)] []) [⟨none, some 57, .mv none (.t 5)⟩,
 ⟨none, some 58, .mv none (.t 9)⟩,
 ⟨none, some 59, .call [none, none] none 0 22 [(.t 57), (.t 58)]⟩,
 ⟨none, some 56, .mv none (.t 59)⟩,
 ⟨none, some 60, .ext (.t 56) 0⟩,
 ⟨none, some 61, .ext (.t 56) 1⟩,
 ⟨none, some 10, .mvS none (.t 60)⟩,
 ⟨none, some 11, .mvS none (.t 61)⟩])
  (.reg (.mk [1, 5, 6, 8, 9] [(.sub 22 0), (.sub 22 1), (.sub 22 2), (.sub 22 3), (.sub 22 4), (.sub 22 5), (.sub 22 6), (.loc 6)] []) [⟨none, some 62, .mvS (some 1) (.t 8)⟩,
 ⟨none, some 63, .mv none (.t 10)⟩,
 ⟨none, some 64, .buildSl 1 [(.t 63)]⟩,
 ⟨none, some 65, .app 1 8 (.t 62) (.t 64)⟩,
 ⟨none, some 8, .mvS (some 1) (.t 65)⟩])))
  (.reg (.mk [1, 5, 6, 8, 9] [(.sub 22 0), (.sub 22 1), (.sub 22 2), (.sub 22 3), (.sub 22 4), (.sub 22 5), (.sub 22 6), (.loc 6)] []) [⟨none, some 54, .mv none (.t 9)⟩,
 ⟨none, some 55, .bin [] .add (.t 54) (.v (.int .i64 1))⟩,
 ⟨none, some 9, .mvS none (.t 55)⟩]))))))
  (.seq (.seq (.regD (.mk [1, 5, 6, 8, 83] [(.sub 22 0), (.sub 22 1), (.sub 22 2), (.sub 22 3), (.sub 22 4), (.sub 22 5), (.sub 22 6), (.loc 6)] []) [(0, 1), (5, 7), (6, 7), (11, 13), (12, 13), (11, 14), (12, 14), (11, 15), (12, 15)] [⟨none, some 66, .mv none (.t 5)⟩,
 ⟨none, some 67, .mv none (.t 1)⟩,
 ⟨none, some 68, .call [none, none] none 0 26 [(.t 66), (.t 67)]⟩,
 ⟨none, some 69, .bin [] .neq (.t 68) (.v (.int .i64 0))⟩,
 ⟨none, some 70, .mv none (.t 69)⟩,
 ⟨some (70, false), some 71, .mv none (.t 5)⟩,
 ⟨some (70, false), some 72, .call [none] none 0 27 [(.t 71)]⟩,
 ⟨some (70, false), some 73, .mv none (.t 1)⟩,
 ⟨some (70, false), some 74, .bin [] .neq (.t 72) (.t 73)⟩,
 ⟨none, some 75, .pick (.t 70) (.v (.bool true)) (.t 74)⟩,
 ⟨none, some 76, .mv none (.t 75)⟩,
 ⟨some (76, false), some 77, .mv none (.t 5)⟩,
 ⟨some (76, false), some 78, .call [none] none 0 20 [(.t 77)]⟩,
 ⟨some (76, false), some 79, .fa 0 (.t 6)⟩,
 ⟨some (76, false), some 80, .load none false (.t 79)⟩,
 ⟨some (76, false), some 81, .lenSl (.t 80)⟩,
 ⟨some (76, false), some 82, .bin [] .neq (.t 78) (.t 81)⟩,
 ⟨none, some 83, .pick (.t 76) (.v (.bool true)) (.t 82)⟩])
  (.cond (.t 83) (.seq (.reg (.mk [4] [] []) [⟨none, some 4, .mvS none (.v (.bool false))⟩])
  .ret) .skip))
  (.seq (.seq (.reg (.mk [5, 6, 8, 12] [(.sub 22 0), (.sub 22 1), (.sub 22 2), (.sub 22 3), (.sub 22 4), (.sub 22 5), (.sub 22 6), (.loc 6)] []) [⟨none, some 84, .mv none (.t 1)⟩,
 ⟨none, some 12, .mvS none (.t 84)⟩])
  (.block 2 (.loop (.mk [5, 6, 8, 12] [(.sub 22 0), (.sub 22 1), (.sub 22 2), (.sub 22 3), (.sub 22 4), (.sub 22 5), (.sub 22 6), (.loc 6)] []) (.seq (.seq (.reg (.mk [5, 6, 8, 12, 89] [(.sub 22 0), (.sub 22 1), (.sub 22 2), (.sub 22 3), (.sub 22 4), (.sub 22 5), (.sub 22 6), (.loc 6)] []) [⟨none, some 85, .mv none (.t 12)⟩,
 ⟨none, some 86, .fa 1 (.t 6)⟩,
 ⟨none, some 87, .load none false (.t 86)⟩,
 ⟨none, some 88, .lenSl (.t 87)⟩,
 ⟨none, some 89, .bin [] .lss (.t 85) (.t 88)⟩])
  (.cond (.t 89) .skip (.exit 2)))
  (.seq (.block 3 (.seq (.regD (.mk [5, 6, 8, 12, 13, 14] [(.sub 22 0), (.sub 22 1), (.sub 22 2), (.sub 22 3), (.sub 22 4), (.sub 22 5), (.sub 22 6), (.loc 6)] []) [(0, 1), (0, 2), (0, 3), (1, 3), (2, 3), (0, 4), (0, 5), (0, 6), (0, 7), (1, 7), (2, 7), (3, 7), (4, 7), (5, 7), (6, 7), (0, 8), (1, 8), (3, 8), (4, 8), (5, 8), (0, 9), (1, 9), (2, 9), (3, 9), (4, 9), (5, 9), (6, 9), (7, 9), (8, 9), (0, 10), (1, 10), (2, 10), (3, 10), (4, 10), (5, 10), (6, 10), (0, 11), (1, 11), (2, 11), (3, 11), (4, 11), (5, 11), (6, 11), (0, 12), (1, 12), (3, 12), (4, 12), (5, 12), (15, 16), (16, 17)] [⟨none, some 93, .mv none (.t 5)⟩,
 ⟨none, some 94, .fa 1 (.t 6)⟩,
 ⟨none, some 95, .load none false (.t 94)⟩,
 ⟨none, some 96, .mv none (.t 12)⟩,
 ⟨none, some 97, .ia (some 2) none (.t 95) (.t 96)⟩,
 ⟨none, some 98, .ia none (some (2, 1)) (.t 97) (.v (.int .i64 0))⟩,
 ⟨none, some 99, .load none false (.t 98)⟩,
 ⟨none, some 100, .fa 1 (.t 6)⟩,
 ⟨none, some 101, .load none false (.t 100)⟩,
 ⟨none, some 102, .mv none (.t 12)⟩,
 ⟨none, some 103, .ia (some 2) none (.t 101) (.t 102)⟩,
 ⟨none, some 104, .ia none (some (2, 1)) (.t 103) (.v (.int .i64 1))⟩,
 ⟨none, some 105, .load none false (.t 104)⟩,
 ⟨none, some 106, .call [none, none, none] none 0 25 [(.t 93), (.t 99), (.t 105)]⟩,
 ⟨none, some 92, .mv none (.t 106)⟩,
 ⟨none, some 107, .ext (.t 92) 0⟩,
 ⟨none, some 108, .ext (.t 92) 1⟩,
 ⟨none, some 13, .mvS none (.t 107)⟩,
 ⟨none, some 14, .mvS none (.t 108)⟩])
  (.seq (.reg (.mk [5, 6, 8, 12, 115] [(.sub 22 0), (.sub 22 1), (.sub 22 2), (.sub 22 3), (.sub 22 4), (.sub 22 5), (.sub 22 6), (.loc 6)] []) [⟨none, some 109, .mv none (.t 13)⟩,
 ⟨none, some 110, .mv none (.t 12)⟩,
 ⟨none, some 111, .bin [] .neq (.t 109) (.t 110)⟩,
 ⟨none, some 112, .mv none (.t 111)⟩,
 ⟨some (112, false), some 113, .mv none (.t 14)⟩,
 ⟨some (112, false), some 114, .bin [] .neq (.t 113) (.v (.int .i64 0))⟩,
 ⟨none, some 115, .pick (.t 112) (.v (.bool true)) (.t 114)⟩])
  (.cond (.t 115) (.seq (.reg (.mk [4] [] []) [⟨none, some 4, .mvS none (.v (.bool false))⟩])
  .ret) .skip))))
  (.reg (.mk [5, 6, 8, 12] [(.sub 22 0), (.sub 22 1), (.sub 22 2), (.sub 22 3), (.sub 22 4), (.sub 22 5), (.sub 22 6), (.loc 6)] []) [⟨none, some 90, .mv none (.t 12)⟩,
 ⟨none, some 91, .bin [] .add (.t 90) (.v (.int .i64 1))⟩,
 ⟨none, some 12, .mvS none (.t 91)⟩]))))))
  (.seq (.seq (.reg (.mk [5, 6, 8, 15] [(.sub 22 0), (.sub 22 1), (.sub 22 2), (.sub 22 3), (.sub 22 4), (.sub 22 5), (.sub 22 6), (.loc 6)] []) [⟨none, some 15, .mvS none (.v (.int .i64 0))⟩])
  (.block 4 (.loop (.mk [5, 6, 8, 15] [(.sub 22 0), (.sub 22 1), (.sub 22 2), (.sub 22 3), (.sub 22 4), (.sub 22 5), (.sub 22 6), (.loc 6)] []) (.seq (.seq (.reg (.mk [5, 6, 8, 15, 120] [(.sub 22 0), (.sub 22 1), (.sub 22 2), (.sub 22 3), (.sub 22 4), (.sub 22 5), (.sub 22 6), (.loc 6)] []) [⟨none, some 116, .mv none (.t 15)⟩,
 ⟨none, some 117, .fa 0 (.t 6)⟩,
 ⟨none, some 118, .load none false (.t 117)⟩,
 ⟨none, some 119, .lenSl (.t 118)⟩,
 ⟨none, some 120, .bin [] .lss (.t 116) (.t 119)⟩])
  (.cond (.t 120) .skip (.exit 4)))
  (.seq (.block 5 (.seq (.reg (.mk [5, 6, 8, 15, 16] [(.sub 22 0), (.sub 22 1), (.sub 22 2), (.sub 22 3), (.sub 22 4), (.sub 22 5), (.sub 22 6), (.loc 6)] []) [⟨none, some 124, .mv none (.t 5)⟩,
 ⟨none, some 125, .mv none (.t 15)⟩,
 ⟨none, some 126, .call [none, none] none 0 22 [(.t 124), (.t 125)]⟩,
 ⟨none, some 123, .mv none (.t 126)⟩,
 ⟨none, some 127, .ext (.t 123) 0⟩,
 ⟨none, some 128, .ext (.t 123) 1⟩,
 ⟨none, some 16, .mvS none (.t 127)⟩,
 ⟨none, some 17, .mvS none (.t 128)⟩])
  (.seq (.reg (.mk [5, 6, 8, 15, 134] [(.sub 22 0), (.sub 22 1), (.sub 22 2), (.sub 22 3), (.sub 22 4), (.sub 22 5), (.sub 22 6), (.loc 6)] []) [⟨none, some 129, .mv none (.t 16)⟩,
 ⟨none, some 130, .mv (some 1) (.t 8)⟩,
 ⟨none, some 131, .mv none (.t 15)⟩,
 ⟨none, some 132, .ia (some 1) none (.t 130) (.t 131)⟩,
 ⟨none, some 133, .load none false (.t 132)⟩,
 ⟨none, some 134, .bin [] .neq (.t 129) (.t 133)⟩])
  (.cond (.t 134) (.seq (.reg (.mk [4] [] []) [⟨none, some 4, .mvS none (.v (.bool false))⟩])
  .ret) .skip))))
  (.reg (.mk [5, 6, 8, 15] [(.sub 22 0), (.sub 22 1), (.sub 22 2), (.sub 22 3), (.sub 22 4), (.sub 22 5), (.sub 22 6), (.loc 6)] []) [⟨none, some 121, .mv none (.t 15)⟩,
 ⟨none, some 122, .bin [] .add (.t 121) (.v (.int .i64 1))⟩,
 ⟨none, some 15, .mvS none (.t 122)⟩]))))))
  (.seq (.reg (.mk [4] [] []) [⟨none, some 4, .mvS none (.v (.bool true))⟩])
  .ret)))))))))))
theorem k8 {B : Heap} {args : List V} {objs : List Ob} {r : V} {objs' news : List Ob} (h : acwp (COk Tryd.prog B) c8 (initSt args objs) (EndA (tabT tab) [.tmp 4] objs.length (mvOf args objs) [] r objs' news)) (hn : args.length ≤ Tryd.f8.ntmps := by exact Nat.le_of_ble_eq_true rfl) (hlen : objs'.length = objs.length := by rfl) : Ok B 8 args objs r objs' news :=
  callMB tabOk mixed Tryd.func8 Tryd.call8 (hints [] [([0, 1], []), ([], []), ([0, 1, 19], []), ([], []), ([4], []), ([], []), ([1, 5, 6, 7], [.sub 22 0, .sub 22 1, .sub 22 2, .sub 22 3, .sub 22 4, .sub 22 5, .sub 22 6, .loc 6]), ([], []), ([1, 5, 6, 27], [.sub 22 0, .sub 22 1, .sub 22 2, .sub 22 3, .sub 22 4, .sub 22 5, .sub 22 6, .loc 6]), ([], []), ([4], []), ([], []), ([1, 5, 6, 36], [.sub 22 0, .sub 22 1, .sub 22 2, .sub 22 3, .sub 22 4, .sub 22 5, .sub 22 6, .loc 6]), ([], []), ([4], []), ([], []), ([1, 5, 6, 8], [.sub 22 0, .sub 22 1, .sub 22 2, .sub 22 3, .sub 22 4, .sub 22 5, .sub 22 6, .loc 6]), ([], []), ([1, 5, 6, 8, 9], [.sub 22 0, .sub 22 1, .sub 22 2, .sub 22 3, .sub 22 4, .sub 22 5, .sub 22 6, .loc 6]), ([], []), ([1, 5, 6, 8, 9, 53], [.sub 22 0, .sub 22 1, .sub 22 2, .sub 22 3, .sub 22 4, .sub 22 5, .sub 22 6, .loc 6]), ([1, 5, 6, 8, 9], [.sub 22 0, .sub 22 1, .sub 22 2, .sub 22 3, .sub 22 4, .sub 22 5, .sub 22 6, .loc 6]), ([1, 5, 6, 8, 9], [.sub 22 0, .sub 22 1, .sub 22 2, .sub 22 3, .sub 22 4, .sub 22 5, .sub 22 6, .loc 6]), ([], []), ([1, 5, 6, 8, 9, 10], [.sub 22 0, .sub 22 1, .sub 22 2, .sub 22 3, .sub 22 4, .sub 22 5, .sub 22 6, .loc 6]), ([], []), ([1, 5, 6, 8, 9], [.sub 22 0, .sub 22 1, .sub 22 2, .sub 22 3, .sub 22 4, .sub 22 5, .sub 22 6, .loc 6]), ([], []), ([1, 5, 6, 8, 83], [.sub 22 0, .sub 22 1, .sub 22 2, .sub 22 3, .sub 22 4, .sub 22 5, .sub 22 6, .loc 6]), ([], []), ([4], []), ([], []), ([5, 6, 8, 12], [.sub 22 0, .sub 22 1, .sub 22 2, .sub 22 3, .sub 22 4, .sub 22 5, .sub 22 6, .loc 6]), ([], []), ([5, 6, 8, 12, 89], [.sub 22 0, .sub 22 1, .sub 22 2, .sub 22 3, .sub 22 4, .sub 22 5, .sub 22 6, .loc 6]), ([5, 6, 8, 12], [.sub 22 0, .sub 22 1, .sub 22 2, .sub 22 3, .sub 22 4, .sub 22 5, .sub 22 6, .loc 6]), ([5, 6, 8, 12], [.sub 22 0, .sub 22 1, .sub 22 2, .sub 22 3, .sub 22 4, .sub 22 5, .sub 22 6, .loc 6]), ([], []), ([5, 6, 8, 12, 13, 14], [.sub 22 0, .sub 22 1, .sub 22 2, .sub 22 3, .sub 22 4, .sub 22 5, .sub 22 6, .loc 6]), ([], []), ([5, 6, 8, 12, 115], [.sub 22 0, .sub 22 1, .sub 22 2, .sub 22 3, .sub 22 4, .sub 22 5, .sub 22 6, .loc 6]), ([], []), ([4], []), ([], []), ([5, 6, 8, 15], [.sub 22 0, .sub 22 1, .sub 22 2, .sub 22 3, .sub 22 4, .sub 22 5, .sub 22 6, .loc 6]), ([], []), ([5, 6, 8, 15, 120], [.sub 22 0, .sub 22 1, .sub 22 2, .sub 22 3, .sub 22 4, .sub 22 5, .sub 22 6, .loc 6]), ([5, 6, 8, 15], [.sub 22 0, .sub 22 1, .sub 22 2, .sub 22 3, .sub 22 4, .sub 22 5, .sub 22 6, .loc 6]), ([5, 6, 8, 15], [.sub 22 0, .sub 22 1, .sub 22 2, .sub 22 3, .sub 22 4, .sub 22 5, .sub 22 6, .loc 6]), ([], []), ([5, 6, 8, 15, 16], [.sub 22 0, .sub 22 1, .sub 22 2, .sub 22 3, .sub 22 4, .sub 22 5, .sub 22 6, .loc 6]), ([], []), ([5, 6, 8, 15, 134], [.sub 22 0, .sub 22 1, .sub 22 2, .sub 22 3, .sub 22 4, .sub 22 5, .sub 22 6, .loc 6]), ([], []), ([4], []), ([], []), ([4], []), ([], [])]) ⟨[4], [], [], [(12, 7)]⟩ (by kernel_rfl) rfl rfl (by decide) hn hlen h
end Go.Proofs.YtjabgfnljbnmmaaDoor
