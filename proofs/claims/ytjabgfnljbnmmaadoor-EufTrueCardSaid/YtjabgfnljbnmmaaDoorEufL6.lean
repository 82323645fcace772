/- A part of the proof of a law of this seat: no condition. -/
import Derived.Test.YtjabgfnljbnmmaaDoorT1e
import Derived.Test.YtjabgfnljbnmmaaDoorA8
namespace Go.Proofs.YtjabgfnljbnmmaaDoor
open Go.Ax
def c6 : AC :=
  (.seq (.reg (.mk [0, 1] [] []) [⟨none, some 4, .mvS none (.v (.bool false))⟩])
  (.seq (.seq (.reg (.mk [0, 1, 15] [] []) [⟨none, some 14, .call [] none 0 11 []⟩,
 ⟨none, some 15, .un .not (.t 14)⟩])
  (.cond (.t 15) (.seq (.reg (.mk [4] [] []) [⟨none, some 4, .mvS none (.v (.bool false))⟩])
  .ret) .skip))
  (.seq (.reg (.mk [1, 5, 6, 7] [(.sub 18 0), (.sub 18 1), (.sub 18 2), (.sub 18 3), (.sub 18 4), (.sub 18 5), (.sub 18 6), (.loc 6)] []) [⟨none, some 17, .mv (some 5) (.t 0)⟩,
 ⟨none, some 18, .call [(some 5)] none 7 12 [(.t 17)]⟩,
 ⟨none, some 16, .mv none (.t 18)⟩,
 ⟨none, some 19, .ext (.t 16) 0⟩,
 ⟨none, some 20, .ext (.t 16) 1⟩,
 ⟨none, some 21, .ext (.t 16) 2⟩,
 ⟨none, some 6, .alloc [(.own 2 []), (.own 2 [])]⟩,
 ⟨none, some 5, .mvS none (.t 19)⟩,
 ⟨none, none, .store 2 none (.t 6) (.t 20)⟩,
 ⟨none, some 7, .mvS none (.t 21)⟩])
  (.seq (.seq (.reg (.mk [1, 5, 6, 23] [(.sub 18 0), (.sub 18 1), (.sub 18 2), (.sub 18 3), (.sub 18 4), (.sub 18 5), (.sub 18 6), (.loc 6)] []) [⟨none, some 22, .mv none (.t 7)⟩,
 ⟨none, some 23, .un .not (.t 22)⟩])
  (.cond (.t 23) (.seq (.reg (.mk [4] [] []) [⟨none, some 4, .mvS none (.v (.bool false))⟩])
  .ret) .skip))
  (.seq (.reg (.mk [1, 5, 6, 8] [(.sub 18 0), (.sub 18 1), (.sub 18 2), (.sub 18 3), (.sub 18 4), (.sub 18 5), (.sub 18 6), (.loc 6)] []) [⟨none, some 8, .mvS (some 1) (.v .nils)⟩])
  (.seq (.seq (.reg (.mk [1, 5, 6, 8, 9] [(.sub 18 0), (.sub 18 1), (.sub 18 2), (.sub 18 3), (.sub 18 4), (.sub 18 5), (.sub 18 6), (.loc 6)] []) [⟨none, some 9, .mvS none (.v (.int .i64 0))⟩])
  (.block 0 (.loop (.mk [1, 5, 6, 8, 9] [(.sub 18 0), (.sub 18 1), (.sub 18 2), (.sub 18 3), (.sub 18 4), (.sub 18 5), (.sub 18 6), (.loc 6)] []) (.seq (.seq (.reg (.mk [1, 5, 6, 8, 9, 28] [(.sub 18 0), (.sub 18 1), (.sub 18 2), (.sub 18 3), (.sub 18 4), (.sub 18 5), (.sub 18 6), (.loc 6)] []) [⟨none, some 24, .mv none (.t 9)⟩,
 ⟨none, some 25, .fa 0 (.t 6)⟩,
 ⟨none, some 26, .load none false (.t 25)⟩,
 ⟨none, some 27, .lenSl (.t 26)⟩,
 ⟨none, some 28, .bin [] .lss (.t 24) (.t 27)⟩])
  (.cond (.t 28) .skip (.exit 0)))
  (.seq (.block 1 (.reg (.mk [1, 5, 6, 8, 9] [(.sub 18 0), (.sub 18 1), (.sub 18 2), (.sub 18 3), (.sub 18 4), (.sub 18 5), (.sub 18 6), (.loc 6)] []) [⟨none, some 31, .mvS (some 1) (.t 8)⟩,
 ⟨none, some 32, .load (some 2) false (.t 6)⟩,
 ⟨none, some 33, .mv (some 1) (.t 8)⟩,
 ⟨none, some 34, .mv none (.t 9)⟩,
 ⟨none, some 35, .mv (some 1) (.t 1)⟩,
 ⟨none, some 36, .call [none, (some 1), none, (some 1)] none 0 23 [(.t 32), (.t 33), (.t 34), (.t 35)]⟩,
 ⟨none, some 37, .buildSl 1 [(.t 36)]⟩,
 ⟨none, some 38, .app 1 8 (.t 31) (.t 37)⟩,
 ⟨none, some 8, .mvS (some 1) (.t 38)⟩]))
  (.reg (.mk [1, 5, 6, 8, 9] [(.sub 18 0), (.sub 18 1), (.sub 18 2), (.sub 18 3), (.sub 18 4), (.sub 18 5), (.sub 18 6), (.loc 6)] []) [⟨none, some 29, .mv none (.t 9)⟩,
 ⟨none, some 30, .bin [] .add (.t 29) (.v (.int .i64 1))⟩,
 ⟨none, some 9, .mvS none (.t 30)⟩]))))))
  (.seq (.seq (.reg (.mk [5, 6, 8, 10] [(.sub 18 0), (.sub 18 1), (.sub 18 2), (.sub 18 3), (.sub 18 4), (.sub 18 5), (.sub 18 6), (.loc 6)] []) [⟨none, some 10, .mvS none (.v (.int .i64 0))⟩])
  (.block 2 (.loop (.mk [5, 6, 8, 10] [(.sub 18 0), (.sub 18 1), (.sub 18 2), (.sub 18 3), (.sub 18 4), (.sub 18 5), (.sub 18 6), (.loc 6)] []) (.seq (.seq (.reg (.mk [5, 6, 8, 10, 43] [(.sub 18 0), (.sub 18 1), (.sub 18 2), (.sub 18 3), (.sub 18 4), (.sub 18 5), (.sub 18 6), (.loc 6)] []) [⟨none, some 39, .mv none (.t 10)⟩,
 ⟨none, some 40, .fa 1 (.t 6)⟩,
 ⟨none, some 41, .load none false (.t 40)⟩,
 ⟨none, some 42, .lenSl (.t 41)⟩,
 ⟨none, some 43, .bin [] .lss (.t 39) (.t 42)⟩])
  (.cond (.t 43) .skip (.exit 2)))
  (.seq (.block 3 (.seq (.regD (.mk [5, 6, 8, 10, 64] [(.sub 18 0), (.sub 18 1), (.sub 18 2), (.sub 18 3), (.sub 18 4), (.sub 18 5), (.sub 18 6), (.loc 6)] []) [(0, 1), (0, 2), (0, 3), (1, 3), (2, 3), (0, 4), (0, 5), (0, 6), (0, 9), (1, 9), (2, 9), (3, 9), (4, 9), (5, 9), (6, 9), (7, 9), (8, 9), (0, 10), (1, 10), (2, 10), (3, 10), (4, 10), (5, 10), (6, 10), (7, 10), (8, 10), (9, 10), (0, 11), (1, 11), (3, 11), (4, 11), (5, 11), (7, 11), (9, 11), (0, 12), (1, 12), (2, 12), (3, 12), (4, 12), (5, 12), (6, 12), (7, 12), (8, 12), (9, 12), (10, 12), (11, 12), (0, 13), (1, 13), (2, 13), (3, 13), (4, 13), (5, 13), (6, 13), (7, 13), (8, 13), (9, 13), (0, 14), (1, 14), (2, 14), (3, 14), (4, 14), (5, 14), (6, 14), (7, 14), (8, 14), (9, 14), (0, 15), (1, 15), (3, 15), (4, 15), (5, 15), (7, 15), (9, 15), (0, 16), (1, 16), (2, 16), (3, 16), (4, 16), (5, 16), (6, 16), (7, 16), (8, 16), (0, 17), (1, 17), (3, 17), (4, 17), (5, 17), (7, 17)] [⟨none, some 46, .mv (some 1) (.t 8)⟩,
 ⟨none, some 47, .fa 1 (.t 6)⟩,
 ⟨none, some 48, .load none false (.t 47)⟩,
 ⟨none, some 49, .mv none (.t 10)⟩,
 ⟨none, some 50, .ia (some 2) none (.t 48) (.t 49)⟩,
 ⟨none, some 51, .ia none (some (2, 1)) (.t 50) (.v (.int .i64 0))⟩,
 ⟨none, some 52, .load none false (.t 51)⟩,
 ⟨none, some 53, .ia (some 1) none (.t 46) (.t 52)⟩,
 ⟨none, some 54, .load none false (.t 53)⟩,
 ⟨none, some 55, .mv (some 1) (.t 8)⟩,
 ⟨none, some 56, .fa 1 (.t 6)⟩,
 ⟨none, some 57, .load none false (.t 56)⟩,
 ⟨none, some 58, .mv none (.t 10)⟩,
 ⟨none, some 59, .ia (some 2) none (.t 57) (.t 58)⟩,
 ⟨none, some 60, .ia none (some (2, 1)) (.t 59) (.v (.int .i64 1))⟩,
 ⟨none, some 61, .load none false (.t 60)⟩,
 ⟨none, some 62, .ia (some 1) none (.t 55) (.t 61)⟩,
 ⟨none, some 63, .load none false (.t 62)⟩,
 ⟨none, some 64, .bin [] .neq (.t 54) (.t 63)⟩])
  (.cond (.t 64) (.seq (.reg (.mk [4] [] []) [⟨none, some 4, .mvS none (.v (.bool true))⟩])
  .ret) .skip)))
  (.reg (.mk [5, 6, 8, 10] [(.sub 18 0), (.sub 18 1), (.sub 18 2), (.sub 18 3), (.sub 18 4), (.sub 18 5), (.sub 18 6), (.loc 6)] []) [⟨none, some 44, .mv none (.t 10)⟩,
 ⟨none, some 45, .bin [] .add (.t 44) (.v (.int .i64 1))⟩,
 ⟨none, some 10, .mvS none (.t 45)⟩]))))))
  (.seq (.seq (.reg (.mk [5, 6, 8, 11] [(.sub 18 0), (.sub 18 1), (.sub 18 2), (.sub 18 3), (.sub 18 4), (.sub 18 5), (.sub 18 6), (.loc 6)] []) [⟨none, some 11, .mvS none (.v (.int .i64 0))⟩])
  (.block 4 (.loop (.mk [5, 6, 8, 11] [(.sub 18 0), (.sub 18 1), (.sub 18 2), (.sub 18 3), (.sub 18 4), (.sub 18 5), (.sub 18 6), (.loc 6)] []) (.seq (.seq (.reg (.mk [5, 6, 8, 11, 69] [(.sub 18 0), (.sub 18 1), (.sub 18 2), (.sub 18 3), (.sub 18 4), (.sub 18 5), (.sub 18 6), (.loc 6)] []) [⟨none, some 65, .mv none (.t 11)⟩,
 ⟨none, some 66, .fa 0 (.t 6)⟩,
 ⟨none, some 67, .load none false (.t 66)⟩,
 ⟨none, some 68, .lenSl (.t 67)⟩,
 ⟨none, some 69, .bin [] .lss (.t 65) (.t 68)⟩])
  (.cond (.t 69) .skip (.exit 4)))
  (.seq (.block 5 (.seq (.reg (.mk [5, 6, 8, 11, 12, 13] [(.sub 18 0), (.sub 18 1), (.sub 18 2), (.sub 18 3), (.sub 18 4), (.sub 18 5), (.sub 18 6), (.loc 6)] []) [⟨none, some 73, .mv none (.t 5)⟩,
 ⟨none, some 74, .mv none (.t 11)⟩,
 ⟨none, some 75, .call [none, none] none 0 22 [(.t 73), (.t 74)]⟩,
 ⟨none, some 72, .mv none (.t 75)⟩,
 ⟨none, some 76, .ext (.t 72) 0⟩,
 ⟨none, some 77, .ext (.t 72) 1⟩,
 ⟨none, some 12, .mvS none (.t 76)⟩,
 ⟨none, some 13, .mvS none (.t 77)⟩])
  (.seq (.regD (.mk [5, 6, 8, 11, 99] [(.sub 18 0), (.sub 18 1), (.sub 18 2), (.sub 18 3), (.sub 18 4), (.sub 18 5), (.sub 18 6), (.loc 6)] []) [(7, 8), (12, 13), (12, 16), (13, 16), (14, 16), (15, 16), (12, 17), (13, 17), (14, 17), (15, 17), (16, 17), (12, 18), (13, 18), (14, 18), (15, 18), (12, 19), (13, 19), (14, 19), (15, 19)] [⟨none, some 78, .mv none (.t 13)⟩,
 ⟨none, some 79, .bin [] .neq (.t 78) (.v (.int .i64 0))⟩,
 ⟨none, some 80, .mv none (.t 79)⟩,
 ⟨some (80, false), some 81, .mv none (.t 12)⟩,
 ⟨some (80, false), some 82, .bin [] .lss (.t 81) (.v (.int .i64 0))⟩,
 ⟨none, some 83, .pick (.t 80) (.v (.bool true)) (.t 82)⟩,
 ⟨none, some 84, .mv none (.t 83)⟩,
 ⟨some (84, false), some 85, .mv none (.t 12)⟩,
 ⟨some (84, false), some 86, .mv none (.t 11)⟩,
 ⟨some (84, false), some 87, .bin [] .gtr (.t 85) (.t 86)⟩,
 ⟨none, some 88, .pick (.t 84) (.v (.bool true)) (.t 87)⟩,
 ⟨none, some 89, .mv none (.t 88)⟩,
 ⟨some (89, false), some 90, .mv (some 1) (.t 8)⟩,
 ⟨some (89, false), some 91, .mv none (.t 12)⟩,
 ⟨some (89, false), some 92, .ia (some 1) none (.t 90) (.t 91)⟩,
 ⟨some (89, false), some 93, .load none false (.t 92)⟩,
 ⟨some (89, false), some 94, .mv (some 1) (.t 8)⟩,
 ⟨some (89, false), some 95, .mv none (.t 11)⟩,
 ⟨some (89, false), some 96, .ia (some 1) none (.t 94) (.t 95)⟩,
 ⟨some (89, false), some 97, .load none false (.t 96)⟩,
 ⟨some (89, false), some 98, .bin [] .neq (.t 93) (.t 97)⟩,
 ⟨none, some 99, .pick (.t 89) (.v (.bool true)) (.t 98)⟩])
  (.cond (.t 99) (.seq (.reg (.mk [4] [] []) [⟨none, some 4, .mvS none (.v (.bool false))⟩])
  .ret) .skip))))
  (.reg (.mk [5, 6, 8, 11] [(.sub 18 0), (.sub 18 1), (.sub 18 2), (.sub 18 3), (.sub 18 4), (.sub 18 5), (.sub 18 6), (.loc 6)] []) [⟨none, some 70, .mv none (.t 11)⟩,
 ⟨none, some 71, .bin [] .add (.t 70) (.v (.int .i64 1))⟩,
 ⟨none, some 11, .mvS none (.t 71)⟩]))))))
  (.seq (.reg (.mk [4] [] []) [⟨none, some 4, .mvS none (.v (.bool true))⟩])
  .ret)))))))))
theorem k6 {B : Heap} {args : List V} {objs : List Ob} {r : V} {objs' news : List Ob} (h : acwp (COk Tryd.prog B) c6 (initSt args objs) (EndA (tabT tab) [.tmp 4] objs.length (mvOf args objs) [] r objs' news)) (hn : args.length ≤ Tryd.f6.ntmps := by exact Nat.le_of_ble_eq_true rfl) (hlen : objs'.length = objs.length := by rfl) : Ok B 6 args objs r objs' news :=
  callMB tabOk mixed Tryd.func6 Tryd.call6 (hints [] [([0, 1], []), ([], []), ([0, 1, 15], []), ([], []), ([4], []), ([], []), ([1, 5, 6, 7], [.sub 18 0, .sub 18 1, .sub 18 2, .sub 18 3, .sub 18 4, .sub 18 5, .sub 18 6, .loc 6]), ([], []), ([1, 5, 6, 23], [.sub 18 0, .sub 18 1, .sub 18 2, .sub 18 3, .sub 18 4, .sub 18 5, .sub 18 6, .loc 6]), ([], []), ([4], []), ([], []), ([1, 5, 6, 8], [.sub 18 0, .sub 18 1, .sub 18 2, .sub 18 3, .sub 18 4, .sub 18 5, .sub 18 6, .loc 6]), ([], []), ([1, 5, 6, 8, 9], [.sub 18 0, .sub 18 1, .sub 18 2, .sub 18 3, .sub 18 4, .sub 18 5, .sub 18 6, .loc 6]), ([], []), ([1, 5, 6, 8, 9, 28], [.sub 18 0, .sub 18 1, .sub 18 2, .sub 18 3, .sub 18 4, .sub 18 5, .sub 18 6, .loc 6]), ([1, 5, 6, 8, 9], [.sub 18 0, .sub 18 1, .sub 18 2, .sub 18 3, .sub 18 4, .sub 18 5, .sub 18 6, .loc 6]), ([1, 5, 6, 8, 9], [.sub 18 0, .sub 18 1, .sub 18 2, .sub 18 3, .sub 18 4, .sub 18 5, .sub 18 6, .loc 6]), ([], []), ([1, 5, 6, 8, 9], [.sub 18 0, .sub 18 1, .sub 18 2, .sub 18 3, .sub 18 4, .sub 18 5, .sub 18 6, .loc 6]), ([], []), ([5, 6, 8, 10], [.sub 18 0, .sub 18 1, .sub 18 2, .sub 18 3, .sub 18 4, .sub 18 5, .sub 18 6, .loc 6]), ([], []), ([5, 6, 8, 10, 43], [.sub 18 0, .sub 18 1, .sub 18 2, .sub 18 3, .sub 18 4, .sub 18 5, .sub 18 6, .loc 6]), ([5, 6, 8, 10], [.sub 18 0, .sub 18 1, .sub 18 2, .sub 18 3, .sub 18 4, .sub 18 5, .sub 18 6, .loc 6]), ([5, 6, 8, 10], [.sub 18 0, .sub 18 1, .sub 18 2, .sub 18 3, .sub 18 4, .sub 18 5, .sub 18 6, .loc 6]), ([], []), ([5, 6, 8, 10, 64], [.sub 18 0, .sub 18 1, .sub 18 2, .sub 18 3, .sub 18 4, .sub 18 5, .sub 18 6, .loc 6]), ([], []), ([4], []), ([], []), ([5, 6, 8, 11], [.sub 18 0, .sub 18 1, .sub 18 2, .sub 18 3, .sub 18 4, .sub 18 5, .sub 18 6, .loc 6]), ([], []), ([5, 6, 8, 11, 69], [.sub 18 0, .sub 18 1, .sub 18 2, .sub 18 3, .sub 18 4, .sub 18 5, .sub 18 6, .loc 6]), ([5, 6, 8, 11], [.sub 18 0, .sub 18 1, .sub 18 2, .sub 18 3, .sub 18 4, .sub 18 5, .sub 18 6, .loc 6]), ([5, 6, 8, 11], [.sub 18 0, .sub 18 1, .sub 18 2, .sub 18 3, .sub 18 4, .sub 18 5, .sub 18 6, .loc 6]), ([], []), ([5, 6, 8, 11, 12, 13], [.sub 18 0, .sub 18 1, .sub 18 2, .sub 18 3, .sub 18 4, .sub 18 5, .sub 18 6, .loc 6]), ([], []), ([5, 6, 8, 11, 99], [.sub 18 0, .sub 18 1, .sub 18 2, .sub 18 3, .sub 18 4, .sub 18 5, .sub 18 6, .loc 6]), ([], []), ([4], []), ([], []), ([4], []), ([], [])]) ⟨[4], [], [], [(12, 7)]⟩ (by kernel_rfl) rfl rfl (by decide) hn hlen h
end Go.Proofs.YtjabgfnljbnmmaaDoor
