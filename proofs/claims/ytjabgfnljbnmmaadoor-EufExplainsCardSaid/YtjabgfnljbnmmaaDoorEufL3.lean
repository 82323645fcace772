/- A part of the proof of a law of this seat: no condition. -/
import Derived.Test.YtjabgfnljbnmmaaDoorT1e
import Derived.Test.YtjabgfnljbnmmaaDoorA8
namespace Go.Proofs.YtjabgfnljbnmmaaDoor
open Go.Ax
def c3 : AC :=
  (.seq (.reg (.mk [0, 1, 2] [] []) [⟨none, some 6, .mvS none (.v (.bool false))⟩])
  (.seq (.seq (.reg (.mk [0, 1, 2, 16] [] []) [⟨none, some 15, .call [] none 0 11 []⟩,
 ⟨none, some 16, .un .not (.t 15)⟩])
  (.cond (.t 16) (.seq (.reg (.mk [6] [] []) [⟨none, some 6, .mvS none (.v (.bool false))⟩])
  .ret) .skip))
  (.seq (.reg (.mk [1, 2, 7, 8, 9] [(.sub 19 0), (.sub 19 1), (.sub 19 2), (.sub 19 3), (.sub 19 4), (.sub 19 5), (.sub 19 6), (.loc 8)] []) [⟨none, some 18, .mv (some 5) (.t 0)⟩,
 ⟨none, some 19, .call [(some 5)] none 7 12 [(.t 18)]⟩,
 ⟨none, some 17, .mv none (.t 19)⟩,
 ⟨none, some 20, .ext (.t 17) 0⟩,
 ⟨none, some 21, .ext (.t 17) 1⟩,
 ⟨none, some 22, .ext (.t 17) 2⟩,
 ⟨none, some 8, .alloc [(.own 2 []), (.own 2 [])]⟩,
 ⟨none, some 7, .mvS none (.t 20)⟩,
 ⟨none, none, .store 2 none (.t 8) (.t 21)⟩,
 ⟨none, some 9, .mvS none (.t 22)⟩])
  (.seq (.seq (.reg (.mk [1, 2, 7, 8, 24] [(.sub 19 0), (.sub 19 1), (.sub 19 2), (.sub 19 3), (.sub 19 4), (.sub 19 5), (.sub 19 6), (.loc 8)] []) [⟨none, some 23, .mv none (.t 9)⟩,
 ⟨none, some 24, .un .not (.t 23)⟩])
  (.cond (.t 24) (.seq (.reg (.mk [6] [] []) [⟨none, some 6, .mvS none (.v (.bool false))⟩])
  .ret) .skip))
  (.seq (.reg (.mk [1, 2, 8, 10, 11] [(.sub 19 0), (.sub 19 1), (.sub 19 2), (.sub 19 3), (.sub 19 4), (.sub 19 5), (.sub 19 6), (.loc 8)] []) [⟨none, some 26, .mv none (.t 7)⟩,
 ⟨none, some 27, .mv none (.t 1)⟩,
 ⟨none, some 28, .mv none (.t 2)⟩,
 ⟨none, some 29, .call [none, none, none] none 0 13 [(.t 26), (.t 27), (.t 28)]⟩,
 ⟨none, some 25, .mv none (.t 29)⟩,
 ⟨none, some 30, .ext (.t 25) 0⟩,
 ⟨none, some 31, .ext (.t 25) 1⟩,
 ⟨none, some 10, .mvS (some 1) (.t 30)⟩,
 ⟨none, some 11, .mvS none (.t 31)⟩])
  (.seq (.seq (.reg (.mk [1, 2, 8, 10, 11, 41] [(.sub 19 0), (.sub 19 1), (.sub 19 2), (.sub 19 3), (.sub 19 4), (.sub 19 5), (.sub 19 6), (.loc 8)] []) [⟨none, some 32, .load (some 2) false (.t 8)⟩,
 ⟨none, some 33, .mv none (.t 1)⟩,
 ⟨none, some 34, .call [none, none] none 0 14 [(.t 32), (.t 33)]⟩,
 ⟨none, some 35, .un .not (.t 34)⟩,
 ⟨none, some 36, .mv none (.t 35)⟩,
 ⟨some (36, false), some 37, .load (some 2) false (.t 8)⟩,
 ⟨some (36, false), some 38, .mv none (.t 2)⟩,
 ⟨some (36, false), some 39, .call [none, none] none 0 14 [(.t 37), (.t 38)]⟩,
 ⟨some (36, false), some 40, .un .not (.t 39)⟩,
 ⟨none, some 41, .pick (.t 36) (.v (.bool true)) (.t 40)⟩])
  (.cond (.t 41) (.seq (.reg (.mk [6] [] []) [⟨none, some 42, .mv none (.t 11)⟩,
 ⟨none, some 43, .bin [] .eql (.t 42) (.v (.int .i64 50))⟩,
 ⟨none, some 44, .mv none (.t 43)⟩,
 ⟨some (44, true), some 45, .mv (some 1) (.t 10)⟩,
 ⟨some (44, true), some 46, .lenSl (.t 45)⟩,
 ⟨some (44, true), some 47, .bin [] .eql (.t 46) (.v (.int .i64 0))⟩,
 ⟨none, some 48, .pick (.t 44) (.t 47) (.v (.bool false))⟩,
 ⟨none, some 6, .mvS none (.t 48)⟩])
  .ret) .skip))
  (.seq (.reg (.mk [1, 2, 8, 10, 11, 12] [(.sub 19 0), (.sub 19 1), (.sub 19 2), (.sub 19 3), (.sub 19 4), (.sub 19 5), (.sub 19 6), (.sub 50 0), (.loc 8)] []) [⟨none, some 49, .load (some 2) false (.t 8)⟩,
 ⟨none, some 50, .call [none] none 1 15 [(.t 49)]⟩,
 ⟨none, some 12, .mvS (some 1) (.t 50)⟩])
  (.seq (.seq (.regD (.mk [1, 2, 8, 10, 11, 59] [(.sub 19 0), (.sub 19 1), (.sub 19 2), (.sub 19 3), (.sub 19 4), (.sub 19 5), (.sub 19 6), (.loc 8)] []) [(0, 1), (0, 4), (1, 4), (2, 4), (3, 4), (0, 5), (1, 5), (2, 5), (3, 5), (4, 5), (0, 6), (1, 6), (2, 6), (3, 6), (0, 7), (1, 7), (2, 7)] [⟨none, some 51, .mv (some 1) (.t 12)⟩,
 ⟨none, some 52, .mv none (.t 1)⟩,
 ⟨none, some 53, .ia (some 1) none (.t 51) (.t 52)⟩,
 ⟨none, some 54, .load none false (.t 53)⟩,
 ⟨none, some 55, .mv (some 1) (.t 12)⟩,
 ⟨none, some 56, .mv none (.t 2)⟩,
 ⟨none, some 57, .ia (some 1) none (.t 55) (.t 56)⟩,
 ⟨none, some 58, .load none false (.t 57)⟩,
 ⟨none, some 59, .bin [] .neq (.t 54) (.t 58)⟩])
  (.cond (.t 59) (.seq (.reg (.mk [6] [] []) [⟨none, some 60, .mv none (.t 11)⟩,
 ⟨none, some 61, .bin [] .eql (.t 60) (.v (.int .i64 51))⟩,
 ⟨none, some 62, .mv none (.t 61)⟩,
 ⟨some (62, true), some 63, .mv (some 1) (.t 10)⟩,
 ⟨some (62, true), some 64, .lenSl (.t 63)⟩,
 ⟨some (62, true), some 65, .bin [] .eql (.t 64) (.v (.int .i64 0))⟩,
 ⟨none, some 66, .pick (.t 62) (.t 65) (.v (.bool false))⟩,
 ⟨none, some 6, .mvS none (.t 66)⟩])
  .ret) .skip))
  (.seq (.seq (.reg (.mk [1, 2, 8, 10, 11, 13] [(.sub 19 0), (.sub 19 1), (.sub 19 2), (.sub 19 3), (.sub 19 4), (.sub 19 5), (.sub 19 6), (.loc 8)] []) [⟨none, some 13, .mvS none (.v (.int .i64 0))⟩])
  (.block 0 (.loop (.mk [1, 2, 8, 10, 11, 13] [(.sub 19 0), (.sub 19 1), (.sub 19 2), (.sub 19 3), (.sub 19 4), (.sub 19 5), (.sub 19 6), (.loc 8)] []) (.seq (.seq (.reg (.mk [1, 2, 8, 10, 11, 13, 70] [(.sub 19 0), (.sub 19 1), (.sub 19 2), (.sub 19 3), (.sub 19 4), (.sub 19 5), (.sub 19 6), (.loc 8)] []) [⟨none, some 67, .mv none (.t 13)⟩,
 ⟨none, some 68, .mv (some 1) (.t 10)⟩,
 ⟨none, some 69, .lenSl (.t 68)⟩,
 ⟨none, some 70, .bin [] .lss (.t 67) (.t 69)⟩])
  (.cond (.t 70) .skip (.exit 0)))
  (.seq (.block 1 (.seq (.regD (.mk [1, 2, 8, 10, 11, 13, 103] [(.sub 19 0), (.sub 19 1), (.sub 19 2), (.sub 19 3), (.sub 19 4), (.sub 19 5), (.sub 19 6), (.loc 8)] []) [(0, 1), (6, 7), (6, 10), (7, 10), (8, 10), (9, 10), (6, 11), (7, 11), (8, 11), (9, 11), (6, 12), (7, 12), (8, 12), (9, 12), (19, 20), (19, 21), (19, 24), (20, 24), (21, 24), (22, 24), (23, 24), (19, 25), (20, 25), (21, 25), (22, 25), (23, 25), (24, 25), (19, 26), (20, 26), (21, 26), (22, 26), (23, 26), (19, 27), (20, 27), (21, 27), (22, 27), (23, 27)] [⟨none, some 73, .mv (some 1) (.t 10)⟩,
 ⟨none, some 74, .mv none (.t 13)⟩,
 ⟨none, some 75, .ia (some 1) none (.t 73) (.t 74)⟩,
 ⟨none, some 76, .load none false (.t 75)⟩,
 ⟨none, some 77, .bin [] .lss (.t 76) (.v (.int .i64 0))⟩,
 ⟨none, some 78, .mv none (.t 77)⟩,
 ⟨some (78, false), some 79, .mv (some 1) (.t 10)⟩,
 ⟨some (78, false), some 80, .mv none (.t 13)⟩,
 ⟨some (78, false), some 81, .ia (some 1) none (.t 79) (.t 80)⟩,
 ⟨some (78, false), some 82, .load none false (.t 81)⟩,
 ⟨some (78, false), some 83, .fa 1 (.t 8)⟩,
 ⟨some (78, false), some 84, .load none false (.t 83)⟩,
 ⟨some (78, false), some 85, .lenSl (.t 84)⟩,
 ⟨some (78, false), some 86, .bin [] .geq (.t 82) (.t 85)⟩,
 ⟨none, some 87, .pick (.t 78) (.v (.bool true)) (.t 86)⟩,
 ⟨none, some 88, .mv none (.t 87)⟩,
 ⟨some (88, false), some 89, .mv none (.t 13)⟩,
 ⟨some (88, false), some 90, .bin [] .gtr (.t 89) (.v (.int .i64 0))⟩,
 ⟨some (88, false), some 91, .mv none (.t 90)⟩,
 ⟨some (91, true), some 92, .mv (some 1) (.t 10)⟩,
 ⟨some (91, true), some 93, .mv none (.t 13)⟩,
 ⟨some (91, true), some 94, .bin [] .sub (.t 93) (.v (.int .i64 1))⟩,
 ⟨some (91, true), some 95, .ia (some 1) none (.t 92) (.t 94)⟩,
 ⟨some (91, true), some 96, .load none false (.t 95)⟩,
 ⟨some (91, true), some 97, .mv (some 1) (.t 10)⟩,
 ⟨some (91, true), some 98, .mv none (.t 13)⟩,
 ⟨some (91, true), some 99, .ia (some 1) none (.t 97) (.t 98)⟩,
 ⟨some (91, true), some 100, .load none false (.t 99)⟩,
 ⟨some (91, true), some 101, .bin [] .geq (.t 96) (.t 100)⟩,
 ⟨some (88, false), some 102, .pick (.t 91) (.t 101) (.v (.bool false))⟩,
 ⟨none, some 103, .pick (.t 88) (.v (.bool true)) (.t 102)⟩])
  (.cond (.t 103) (.seq (.reg (.mk [6] [] []) [⟨none, some 6, .mvS none (.v (.bool false))⟩])
  .ret) .skip)))
  (.reg (.mk [1, 2, 8, 10, 11, 13] [(.sub 19 0), (.sub 19 1), (.sub 19 2), (.sub 19 3), (.sub 19 4), (.sub 19 5), (.sub 19 6), (.loc 8)] []) [⟨none, some 71, .mv none (.t 13)⟩,
 ⟨none, some 72, .bin [] .add (.t 71) (.v (.int .i64 1))⟩,
 ⟨none, some 13, .mvS none (.t 72)⟩]))))))
  (.seq (.reg (.mk [1, 2, 11, 14] [(.sub 107 0)] []) [⟨none, some 104, .load (some 2) false (.t 8)⟩,
 ⟨none, some 105, .mv (some 1) (.t 10)⟩,
 ⟨none, some 106, .call [none, (some 1)] none 0 16 [(.t 104), (.t 105)]⟩,
 ⟨none, some 107, .call [none] none 1 15 [(.t 106)]⟩,
 ⟨none, some 14, .mvS (some 1) (.t 107)⟩])
  (.seq (.regD (.mk [6] [] []) [(3, 4), (3, 7), (4, 7), (5, 7), (6, 7), (3, 8), (4, 8), (5, 8), (6, 8), (7, 8), (3, 9), (4, 9), (5, 9), (6, 9), (3, 10), (4, 10), (5, 10), (6, 10)] [⟨none, some 108, .mv none (.t 11)⟩,
 ⟨none, some 109, .bin [] .eql (.t 108) (.v (.int .i64 0))⟩,
 ⟨none, some 110, .mv none (.t 109)⟩,
 ⟨some (110, true), some 111, .mv (some 1) (.t 14)⟩,
 ⟨some (110, true), some 112, .mv none (.t 1)⟩,
 ⟨some (110, true), some 113, .ia (some 1) none (.t 111) (.t 112)⟩,
 ⟨some (110, true), some 114, .load none false (.t 113)⟩,
 ⟨some (110, true), some 115, .mv (some 1) (.t 14)⟩,
 ⟨some (110, true), some 116, .mv none (.t 2)⟩,
 ⟨some (110, true), some 117, .ia (some 1) none (.t 115) (.t 116)⟩,
 ⟨some (110, true), some 118, .load none false (.t 117)⟩,
 ⟨some (110, true), some 119, .bin [] .eql (.t 114) (.t 118)⟩,
 ⟨none, some 120, .pick (.t 110) (.t 119) (.v (.bool false))⟩,
 ⟨none, some 6, .mvS none (.t 120)⟩])
  .ret)))))))))))
theorem k3 {B : Heap} {args : List V} {objs : List Ob} {r : V} {objs' news : List Ob} (h : acwp (COk Tryd.prog B) c3 (initSt args objs) (EndA (tabT tab) [.tmp 6] objs.length (mvOf args objs) [] r objs' news)) (hn : args.length ≤ Tryd.f3.ntmps := by exact Nat.le_of_ble_eq_true rfl) (hlen : objs'.length = objs.length := by rfl) : Ok B 3 args objs r objs' news :=
  callMB tabOk mixed Tryd.func3 Tryd.call3 (hints [] [([0, 1, 2], []), ([], []), ([0, 1, 2, 16], []), ([], []), ([6], []), ([], []), ([1, 2, 7, 8, 9], [.sub 19 0, .sub 19 1, .sub 19 2, .sub 19 3, .sub 19 4, .sub 19 5, .sub 19 6, .loc 8]), ([], []), ([1, 2, 7, 8, 24], [.sub 19 0, .sub 19 1, .sub 19 2, .sub 19 3, .sub 19 4, .sub 19 5, .sub 19 6, .loc 8]), ([], []), ([6], []), ([], []), ([1, 2, 8, 10, 11], [.sub 19 0, .sub 19 1, .sub 19 2, .sub 19 3, .sub 19 4, .sub 19 5, .sub 19 6, .loc 8]), ([], []), ([1, 2, 8, 10, 11, 41], [.sub 19 0, .sub 19 1, .sub 19 2, .sub 19 3, .sub 19 4, .sub 19 5, .sub 19 6, .loc 8]), ([], []), ([6], []), ([], []), ([1, 2, 8, 10, 11, 12], [.sub 19 0, .sub 19 1, .sub 19 2, .sub 19 3, .sub 19 4, .sub 19 5, .sub 19 6, .sub 50 0, .loc 8]), ([], []), ([1, 2, 8, 10, 11, 59], [.sub 19 0, .sub 19 1, .sub 19 2, .sub 19 3, .sub 19 4, .sub 19 5, .sub 19 6, .loc 8]), ([], []), ([6], []), ([], []), ([1, 2, 8, 10, 11, 13], [.sub 19 0, .sub 19 1, .sub 19 2, .sub 19 3, .sub 19 4, .sub 19 5, .sub 19 6, .loc 8]), ([], []), ([1, 2, 8, 10, 11, 13, 70], [.sub 19 0, .sub 19 1, .sub 19 2, .sub 19 3, .sub 19 4, .sub 19 5, .sub 19 6, .loc 8]), ([1, 2, 8, 10, 11, 13], [.sub 19 0, .sub 19 1, .sub 19 2, .sub 19 3, .sub 19 4, .sub 19 5, .sub 19 6, .loc 8]), ([1, 2, 8, 10, 11, 13], [.sub 19 0, .sub 19 1, .sub 19 2, .sub 19 3, .sub 19 4, .sub 19 5, .sub 19 6, .loc 8]), ([], []), ([1, 2, 8, 10, 11, 13, 103], [.sub 19 0, .sub 19 1, .sub 19 2, .sub 19 3, .sub 19 4, .sub 19 5, .sub 19 6, .loc 8]), ([], []), ([6], []), ([], []), ([1, 2, 11, 14], [.sub 107 0]), ([], []), ([6], []), ([], [])]) ⟨[6], [], [], [(12, 7), (15, 1)]⟩ (by kernel_rfl) rfl rfl (by decide) hn hlen h
end Go.Proofs.YtjabgfnljbnmmaaDoor
