/- A part of the proof of a law of this seat: no condition. -/
import Derived.Test.YtcdoebbffjejeaaGreatDoorT1s
import Derived.Test.YtcdoebbffjejeaaGreatDoorA8
namespace Go.Proofs.YtcdoebbffjejeaaGreatDoor
open Go.Ax
def c5 : AC :=
  (.seq (.reg (.mk [0] [] []) [⟨none, some 2, .mvS none (.v (.bool false))⟩])
  (.seq (.seq (.reg (.mk [0, 4] [] []) [⟨none, some 3, .call [] none 0 8 []⟩,
 ⟨none, some 4, .un .not (.t 3)⟩])
  (.cond (.t 4) (.seq (.reg (.mk [2] [] []) [⟨none, some 2, .mvS none (.v (.bool false))⟩])
  .ret) .skip))
  (.seq (.reg (.mk [2] [] []) [⟨none, some 5, .mv none (.t 0)⟩,
 ⟨none, some 6, .call [none] none 0 11 [(.t 5)]⟩,
 ⟨none, some 7, .mv none (.t 0)⟩,
 ⟨none, some 8, .bin [] .add (.t 7) (.v (.str [35, 48]))⟩,
 ⟨none, some 9, .bin [] .eql (.t 6) (.t 8)⟩,
 ⟨none, some 10, .mv none (.t 9)⟩,
 ⟨some (10, true), some 11, .mv none (.t 0)⟩,
 ⟨some (10, true), some 12, .call [none] none 0 17 [(.t 11)]⟩,
 ⟨some (10, true), some 13, .mv none (.t 0)⟩,
 ⟨some (10, true), some 14, .call [none] none 0 18 [(.t 13)]⟩,
 ⟨some (10, true), some 15, .bin [] .eql (.t 12) (.t 14)⟩,
 ⟨none, some 16, .pick (.t 10) (.t 15) (.v (.bool false))⟩,
 ⟨none, some 2, .mvS none (.t 16)⟩])
  .ret)))
theorem k5 {B : Heap} {args : List V} {objs : List Ob} {S : Post} (h : acwp (COk Tryz.prog B) c5 (initSt args objs) (EndP (tabT tab) [.tmp 2] objs.length (mvOf args objs) [] S)) (hn : args.length ≤ Tryz.f5.ntmps := by exact Nat.le_of_ble_eq_true rfl) : CallS Tryz.prog B (mvOf args objs) 5 args objs S :=
  callSB tabOk mixed Tryz.func5 Tryz.call5 (hints [] [([0], []), ([], []), ([0, 4], []), ([], []), ([2], []), ([], []), ([2], []), ([], [])]) ⟨[2], [], [], []⟩ (by kernel_rfl) rfl rfl (by decide) hn h
def c8 : AC :=
  (.seq (.reg (.mk [] [] []) [⟨none, some 0, .mvS none (.v (.bool false))⟩])
  (.seq (.reg (.mk [1] [] []) [⟨none, some 3, .call [none] none 0 9 [(.v (.str [109, 97, 105, 110, 32, 123, 32, 108, 101, 116, 32, 120, 32, 61, 32, 49, 59, 32, 105, 102, 32, 40, 120, 32, 62, 32, 48, 41, 32, 123, 32, 120, 32, 61, 32, 50, 59, 32, 125, 32, 112, 114, 105, 110, 116, 32, 120, 59, 32, 125]))]⟩,
 ⟨none, some 1, .mvS (some 2) (.t 3)⟩])
  (.seq (.seq (.reg (.mk [1, 6] [] []) [⟨none, some 4, .mv (some 2) (.t 1)⟩,
 ⟨none, some 5, .lenSl (.t 4)⟩,
 ⟨none, some 6, .bin [] .neq (.t 5) (.v (.int .i64 1))⟩])
  (.cond (.t 6) (.seq (.reg (.mk [0] [] []) [⟨none, some 0, .mvS none (.v (.bool false))⟩])
  .ret) .skip))
  (.seq (.reg (.mk [2] [] []) [⟨none, some 7, .mv (some 2) (.t 1)⟩,
 ⟨none, some 8, .ia (some 2) none (.t 7) (.v (.int .i64 0))⟩,
 ⟨none, some 9, .fa 1 (.t 8)⟩,
 ⟨none, some 10, .load none false (.t 9)⟩,
 ⟨none, some 11, .call [(some 1), (some 7)] none 0 10 [(.v .nils), (.t 10)]⟩,
 ⟨none, some 2, .mvS (some 8) (.t 11)⟩])
  (.seq (.regD (.mk [0] [] []) [(19, 25), (20, 25), (21, 25), (22, 25), (23, 25), (24, 25), (19, 26), (20, 26), (21, 26), (22, 26), (23, 26), (24, 26), (19, 27), (20, 27), (21, 27), (22, 27), (23, 27), (24, 27), (19, 28), (20, 28), (21, 28), (22, 28), (23, 28), (24, 28), (19, 29), (20, 29), (21, 29), (22, 29), (23, 29), (24, 29), (19, 30), (20, 30), (21, 30), (22, 30), (23, 30), (24, 30), (19, 31), (20, 31), (21, 31), (22, 31), (23, 31), (24, 31), (19, 32), (20, 32), (21, 32), (22, 32), (23, 32), (24, 32), (25, 32), (26, 32), (27, 32), (28, 32), (29, 32), (30, 32), (31, 32), (19, 33), (20, 33), (21, 33), (22, 33), (23, 33), (24, 33), (25, 33), (26, 33), (27, 33), (28, 33), (29, 33), (30, 33), (31, 33), (19, 34), (20, 34), (21, 34), (22, 34), (23, 34), (24, 34), (25, 34), (26, 34), (27, 34), (28, 34), (29, 34), (30, 34), (31, 34), (19, 35), (20, 35), (21, 35), (22, 35), (23, 35), (24, 35), (25, 35), (26, 35), (27, 35), (28, 35), (29, 35), (30, 35), (31, 35), (19, 36), (20, 36), (21, 36), (22, 36), (23, 36), (24, 36), (25, 36), (26, 36), (27, 36), (28, 36), (29, 36), (30, 36), (31, 36), (19, 37), (20, 37), (21, 37), (22, 37), (23, 37), (24, 37), (25, 37), (26, 37), (27, 37), (28, 37), (29, 37), (30, 37), (31, 37), (19, 38), (20, 38), (21, 38), (22, 38), (23, 38), (24, 38), (25, 38), (26, 38), (27, 38), (28, 38), (29, 38), (30, 38), (31, 38), (19, 39), (20, 39), (21, 39), (22, 39), (23, 39), (24, 39)] [⟨none, some 12, .mv (some 8) (.t 2)⟩,
 ⟨none, some 13, .lenSl (.t 12)⟩,
 ⟨none, some 14, .bin [] .eql (.t 13) (.v (.int .i64 3))⟩,
 ⟨none, some 15, .mv none (.t 14)⟩,
 ⟨some (15, true), some 16, .mv (some 8) (.t 2)⟩,
 ⟨some (15, true), some 17, .ia (some 8) none (.t 16) (.v (.int .i64 0))⟩,
 ⟨some (15, true), some 18, .fa 1 (.t 17)⟩,
 ⟨some (15, true), some 19, .load none false (.t 18)⟩,
 ⟨some (15, true), some 20, .bin [] .eql (.t 19) (.v (.str [120, 35, 48]))⟩,
 ⟨none, some 21, .pick (.t 15) (.t 20) (.v (.bool false))⟩,
 ⟨none, some 22, .mv none (.t 21)⟩,
 ⟨some (22, true), some 23, .mv (some 8) (.t 2)⟩,
 ⟨some (22, true), some 24, .ia (some 8) none (.t 23) (.v (.int .i64 1))⟩,
 ⟨some (22, true), some 25, .fa 6 (.t 24)⟩,
 ⟨some (22, true), some 26, .load none false (.t 25)⟩,
 ⟨some (22, true), some 27, .lenSl (.t 26)⟩,
 ⟨some (22, true), some 28, .bin [] .eql (.t 27) (.v (.int .i64 1))⟩,
 ⟨none, some 29, .pick (.t 22) (.t 28) (.v (.bool false))⟩,
 ⟨none, some 30, .mv none (.t 29)⟩,
 ⟨some (30, true), some 31, .mv (some 8) (.t 2)⟩,
 ⟨some (30, true), some 32, .ia (some 8) none (.t 31) (.v (.int .i64 1))⟩,
 ⟨some (30, true), some 33, .fa 6 (.t 32)⟩,
 ⟨some (30, true), some 34, .load none false (.t 33)⟩,
 ⟨some (30, true), some 35, .ia (some 4) none (.t 34) (.v (.int .i64 0))⟩,
 ⟨some (30, true), some 36, .load (some 4) false (.t 35)⟩,
 ⟨some (30, true), some 37, .mv (some 8) (.t 2)⟩,
 ⟨some (30, true), some 38, .ia (some 8) none (.t 37) (.v (.int .i64 2))⟩,
 ⟨some (30, true), some 39, .fa 3 (.t 38)⟩,
 ⟨some (30, true), some 40, .load none false (.t 39)⟩,
 ⟨some (30, true), some 41, .ia (some 5) none (.t 40) (.v (.int .i64 0))⟩,
 ⟨some (30, true), some 42, .fa 1 (.t 41)⟩,
 ⟨some (30, true), some 43, .load none false (.t 42)⟩,
 ⟨some (30, true), some 44, .mv (some 8) (.t 2)⟩,
 ⟨some (30, true), some 45, .ia (some 8) none (.t 44) (.v (.int .i64 1))⟩,
 ⟨some (30, true), some 46, .fa 4 (.t 45)⟩,
 ⟨some (30, true), some 47, .load none false (.t 46)⟩,
 ⟨some (30, true), some 48, .ia (some 8) none (.t 47) (.v (.int .i64 0))⟩,
 ⟨some (30, true), some 49, .fa 1 (.t 48)⟩,
 ⟨some (30, true), some 50, .load none false (.t 49)⟩,
 ⟨some (30, true), some 51, .build [(0, 1), (1, 1), (2, 1), (3, 1)] [(.str []), (.str []), (.str []), (.str [])] [0, 1, 2, 3] [(.v (.str [120])), (.t 43), (.t 50), (.v (.str [120, 35, 48]))]⟩,
 ⟨some (30, true), some 52, .bin [10, 4, 4, 4, 4] .eql (.t 36) (.t 51)⟩,
 ⟨none, some 53, .pick (.t 30) (.t 52) (.v (.bool false))⟩,
 ⟨none, some 54, .mv none (.t 53)⟩,
 ⟨some (54, true), some 55, .call [none] none 0 11 [(.v (.str [97]))]⟩,
 ⟨some (54, true), some 56, .bin [] .eql (.t 55) (.v (.str [97, 35, 48]))⟩,
 ⟨none, some 57, .pick (.t 54) (.t 56) (.v (.bool false))⟩,
 ⟨none, some 58, .mv none (.t 57)⟩,
 ⟨some (58, true), some 59, .call [none] none 0 17 [(.v (.str [97, 35, 49, 50]))]⟩,
 ⟨some (58, true), some 60, .bin [] .eql (.t 59) (.v (.str [97]))⟩,
 ⟨none, some 61, .pick (.t 58) (.t 60) (.v (.bool false))⟩,
 ⟨none, some 0, .mvS none (.t 61)⟩])
  .ret)))))
theorem k8 {B : Heap} {args : List V} {objs : List Ob} {S : Post} (h : acwp (COk Tryz.prog B) c8 (initSt args objs) (EndP (tabT tab) [.tmp 0] objs.length (mvOf args objs) [] S)) (hn : args.length ≤ Tryz.f8.ntmps := by exact Nat.le_of_ble_eq_true rfl) : CallS Tryz.prog B (mvOf args objs) 8 args objs S :=
  callSB tabOk mixed Tryz.func8 Tryz.call8 (hints [] [([], []), ([], []), ([1], []), ([], []), ([1, 6], []), ([], []), ([0], []), ([], []), ([2], []), ([], []), ([0], []), ([], [])]) ⟨[0], [], [], []⟩ (by kernel_rfl) rfl rfl (by decide) hn h
def c9 : AC :=
  (.seq (.reg (.mk [0] [] []) [⟨none, some 2, .mvS (some 2) (.v .nils)⟩])
  (.seq (.seq (.reg (.mk [0, 15] [] []) [⟨none, some 13, .mv none (.t 0)⟩,
 ⟨none, some 14, .lenStr (.t 13)⟩,
 ⟨none, some 15, .bin [] .gtr (.t 14) (.v (.int .i64 8000))⟩])
  (.cond (.t 15) (.seq (.reg (.mk [2] [] []) [⟨none, some 2, .mvS (some 2) (.v .nils)⟩])
  .ret) .skip))
  (.seq (.reg (.mk [3, 4] [(.loc 3)] []) [⟨none, some 17, .mv none (.t 0)⟩,
 ⟨none, some 18, .call [none] none 0 25 [(.t 17)]⟩,
 ⟨none, some 16, .mv none (.t 18)⟩,
 ⟨none, some 19, .ext (.t 16) 0⟩,
 ⟨none, some 20, .ext (.t 16) 1⟩,
 ⟨none, some 21, .ext (.t 16) 2⟩,
 ⟨none, some 3, .alloc [(.own 9 []), (.own 7 [])]⟩,
 ⟨none, none, .store 2 none (.t 3) (.t 19)⟩,
 ⟨none, some 4, .mvS none (.t 20)⟩,
 ⟨none, some 5, .mvS none (.t 21)⟩])
  (.seq (.seq (.reg (.mk [3, 29] [(.loc 3)] []) [⟨none, some 22, .mv none (.t 4)⟩,
 ⟨none, some 23, .bin [] .neq (.t 22) (.v (.int .i64 0))⟩,
 ⟨none, some 24, .mv none (.t 23)⟩,
 ⟨some (24, false), some 25, .fa 0 (.t 3)⟩,
 ⟨some (24, false), some 26, .load none false (.t 25)⟩,
 ⟨some (24, false), some 27, .lenSl (.t 26)⟩,
 ⟨some (24, false), some 28, .bin [] .gtr (.t 27) (.v (.int .i64 30))⟩,
 ⟨none, some 29, .pick (.t 24) (.v (.bool true)) (.t 28)⟩])
  (.cond (.t 29) (.seq (.reg (.mk [2] [] []) [⟨none, some 2, .mvS (some 2) (.v .nils)⟩])
  .ret) .skip))
  (.seq (.reg (.mk [6, 7] [(.loc 6), (.loc 7)] []) [⟨none, some 31, .load (some 2) false (.t 3)⟩,
 ⟨none, some 32, .call [none] none 0 26 [(.t 31)]⟩,
 ⟨none, some 30, .mv none (.t 32)⟩,
 ⟨none, some 33, .ext (.t 30) 0⟩,
 ⟨none, some 34, .ext (.t 30) 1⟩,
 ⟨none, some 6, .alloc [(.own 9 []), (.own 7 [])]⟩,
 ⟨none, some 7, .alloc [(.int .i64 0), (.int .i64 0)]⟩,
 ⟨none, none, .store 2 none (.t 6) (.t 33)⟩,
 ⟨none, none, .store 2 none (.t 7) (.t 34)⟩])
  (.seq (.seq (.reg (.mk [6, 37] [(.loc 6)] []) [⟨none, some 35, .fa 0 (.t 7)⟩,
 ⟨none, some 36, .load none false (.t 35)⟩,
 ⟨none, some 37, .bin [] .neq (.t 36) (.v (.int .i64 0))⟩])
  (.cond (.t 37) (.seq (.reg (.mk [2] [] []) [⟨none, some 2, .mvS (some 2) (.v .nils)⟩])
  .ret) .skip))
  (.seq (.reg (.mk [6, 8] [(.loc 6)] []) [⟨none, some 38, .fa 1 (.t 6)⟩,
 ⟨none, some 39, .load none false (.t 38)⟩,
 ⟨none, some 40, .build [(0, 1), (1, 1)] [(.own 1 []), (.own 7 [])] [1] [(.t 39)]⟩,
 ⟨none, some 41, .buildSl 2 [(.t 40)]⟩,
 ⟨none, some 8, .mvS (some 2) (.t 41)⟩])
  (.seq (.seq (.reg (.mk [6, 8, 9] [(.loc 6)] []) [⟨none, some 9, .mvS none (.v (.int .i64 0))⟩])
  (.block 0 (.loop (.mk [6, 8, 9] [(.loc 6)] []) (.seq (.seq (.reg (.mk [6, 8, 9, 46] [(.loc 6)] []) [⟨none, some 42, .mv none (.t 9)⟩,
 ⟨none, some 43, .fa 0 (.t 6)⟩,
 ⟨none, some 44, .load none false (.t 43)⟩,
 ⟨none, some 45, .lenSl (.t 44)⟩,
 ⟨none, some 46, .bin [] .lss (.t 42) (.t 45)⟩])
  (.cond (.t 46) .skip (.exit 0)))
  (.seq (.block 1 (.seq (.reg (.mk [6, 8, 9, 10] [(.loc 6), (.loc 10)] []) [⟨none, some 49, .fa 0 (.t 6)⟩,
 ⟨none, some 50, .load none false (.t 49)⟩,
 ⟨none, some 51, .mv none (.t 9)⟩,
 ⟨none, some 52, .ia (some 9) none (.t 50) (.t 51)⟩,
 ⟨none, some 53, .load (some 9) false (.t 52)⟩,
 ⟨none, some 10, .alloc [(.str []), (.bool false), (.str []), (.own 1 []), (.own 9 []), (.own 5 []), (.own 5 []), (.own 11 []), (.int .i64 0)]⟩,
 ⟨none, none, .store 9 none (.t 10) (.t 53)⟩])
  (.seq (.seq (.reg (.mk [6, 8, 9, 10, 11] [(.loc 6), (.loc 10)] []) [⟨none, some 11, .mvS none (.v (.int .i64 0))⟩])
  (.block 2 (.loop (.mk [6, 8, 9, 10, 11] [(.loc 6), (.loc 10)] []) (.seq (.seq (.reg (.mk [6, 8, 9, 10, 11, 58] [(.loc 6), (.loc 10)] []) [⟨none, some 54, .mv none (.t 11)⟩,
 ⟨none, some 55, .fa 7 (.t 10)⟩,
 ⟨none, some 56, .load none false (.t 55)⟩,
 ⟨none, some 57, .lenSl (.t 56)⟩,
 ⟨none, some 58, .bin [] .lss (.t 54) (.t 57)⟩])
  (.cond (.t 58) .skip (.exit 2)))
  (.seq (.block 3 (.regD (.mk [6, 8, 9, 10, 11] [(.loc 6), (.loc 10)] []) [(0, 1), (0, 2), (0, 3), (1, 3), (2, 3), (0, 4), (0, 5), (0, 6), (0, 7), (0, 8), (1, 8), (2, 8), (3, 8), (4, 8), (5, 8), (6, 8), (7, 8), (0, 9), (1, 9), (3, 9), (4, 9), (5, 9), (7, 9), (0, 10), (1, 10), (2, 10), (3, 10), (4, 10), (5, 10), (6, 10), (7, 10), (8, 10), (9, 10), (0, 11), (1, 11), (2, 11), (3, 11), (4, 11), (5, 11), (6, 11), (7, 11), (0, 12), (1, 12), (2, 12), (3, 12), (4, 12), (5, 12), (6, 12), (7, 12), (0, 13), (1, 13), (3, 13), (4, 13), (5, 13), (7, 13), (0, 14), (0, 15)] [⟨none, some 61, .mvS (some 2) (.t 8)⟩,
 ⟨none, some 62, .fa 7 (.t 10)⟩,
 ⟨none, some 63, .load none false (.t 62)⟩,
 ⟨none, some 64, .mv none (.t 11)⟩,
 ⟨none, some 65, .ia (some 11) none (.t 63) (.t 64)⟩,
 ⟨none, some 66, .fa 1 (.t 65)⟩,
 ⟨none, some 67, .load none false (.t 66)⟩,
 ⟨none, some 68, .call [(some 8)] none 0 27 [(.t 67)]⟩,
 ⟨none, some 69, .fa 7 (.t 10)⟩,
 ⟨none, some 70, .load none false (.t 69)⟩,
 ⟨none, some 71, .mv none (.t 11)⟩,
 ⟨none, some 72, .ia (some 11) none (.t 70) (.t 71)⟩,
 ⟨none, some 73, .fa 8 (.t 72)⟩,
 ⟨none, some 74, .load none false (.t 73)⟩,
 ⟨none, some 75, .build [(0, 1), (1, 1)] [(.own 1 []), (.own 7 [])] [0, 1] [(.t 68), (.t 74)]⟩,
 ⟨none, some 76, .buildSl 2 [(.t 75)]⟩,
 ⟨none, some 77, .app 2 48 (.t 61) (.t 76)⟩,
 ⟨none, some 8, .mvS (some 2) (.t 77)⟩]))
  (.reg (.mk [6, 8, 9, 10, 11] [(.loc 6), (.loc 10)] []) [⟨none, some 59, .mv none (.t 11)⟩,
 ⟨none, some 60, .bin [] .add (.t 59) (.v (.int .i64 1))⟩,
 ⟨none, some 11, .mvS none (.t 60)⟩]))))))
  (.seq (.reg (.mk [6, 8, 9, 10, 12] [(.loc 6), (.loc 10)] []) [⟨none, some 12, .mvS none (.v (.int .i64 0))⟩])
  (.block 4 (.loop (.mk [6, 8, 9, 10, 12] [(.loc 6), (.loc 10)] []) (.seq (.seq (.reg (.mk [6, 8, 9, 10, 12, 82] [(.loc 6), (.loc 10)] []) [⟨none, some 78, .mv none (.t 12)⟩,
 ⟨none, some 79, .fa 6 (.t 10)⟩,
 ⟨none, some 80, .load none false (.t 79)⟩,
 ⟨none, some 81, .lenSl (.t 80)⟩,
 ⟨none, some 82, .bin [] .lss (.t 78) (.t 81)⟩])
  (.cond (.t 82) .skip (.exit 4)))
  (.seq (.block 5 (.regD (.mk [6, 8, 9, 10, 12] [(.loc 6), (.loc 10)] []) [(0, 1), (0, 2), (0, 3), (1, 3), (2, 3), (0, 4), (0, 5), (0, 6), (0, 7), (0, 8), (1, 8), (2, 8), (3, 8), (4, 8), (5, 8), (6, 8), (7, 8), (0, 9), (1, 9), (3, 9), (4, 9), (5, 9), (7, 9), (0, 10), (1, 10), (2, 10), (3, 10), (4, 10), (5, 10), (6, 10), (7, 10), (8, 10), (9, 10), (0, 11), (1, 11), (2, 11), (3, 11), (4, 11), (5, 11), (6, 11), (7, 11), (0, 12), (1, 12), (2, 12), (3, 12), (4, 12), (5, 12), (6, 12), (7, 12), (0, 13), (1, 13), (3, 13), (4, 13), (5, 13), (7, 13), (0, 14), (0, 15)] [⟨none, some 85, .mvS (some 2) (.t 8)⟩,
 ⟨none, some 86, .fa 6 (.t 10)⟩,
 ⟨none, some 87, .load none false (.t 86)⟩,
 ⟨none, some 88, .mv none (.t 12)⟩,
 ⟨none, some 89, .ia (some 5) none (.t 87) (.t 88)⟩,
 ⟨none, some 90, .fa 0 (.t 89)⟩,
 ⟨none, some 91, .load none false (.t 90)⟩,
 ⟨none, some 92, .call [(some 8)] none 0 27 [(.t 91)]⟩,
 ⟨none, some 93, .fa 6 (.t 10)⟩,
 ⟨none, some 94, .load none false (.t 93)⟩,
 ⟨none, some 95, .mv none (.t 12)⟩,
 ⟨none, some 96, .ia (some 5) none (.t 94) (.t 95)⟩,
 ⟨none, some 97, .fa 3 (.t 96)⟩,
 ⟨none, some 98, .load none false (.t 97)⟩,
 ⟨none, some 99, .build [(0, 1), (1, 1)] [(.own 1 []), (.own 7 [])] [0, 1] [(.t 92), (.t 98)]⟩,
 ⟨none, some 100, .buildSl 2 [(.t 99)]⟩,
 ⟨none, some 101, .app 2 48 (.t 85) (.t 100)⟩,
 ⟨none, some 8, .mvS (some 2) (.t 101)⟩]))
  (.reg (.mk [6, 8, 9, 10, 12] [(.loc 6), (.loc 10)] []) [⟨none, some 83, .mv none (.t 12)⟩,
 ⟨none, some 84, .bin [] .add (.t 83) (.v (.int .i64 1))⟩,
 ⟨none, some 12, .mvS none (.t 84)⟩])))))))))
  (.reg (.mk [6, 8, 9] [(.loc 6)] []) [⟨none, some 47, .mv none (.t 9)⟩,
 ⟨none, some 48, .bin [] .add (.t 47) (.v (.int .i64 1))⟩,
 ⟨none, some 9, .mvS none (.t 48)⟩]))))))
  (.seq (.reg (.mk [2] [] []) [⟨none, some 102, .mvS (some 2) (.t 8)⟩,
 ⟨none, some 2, .mvS (some 2) (.t 102)⟩])
  .ret)))))))))
theorem k9 {B : Heap} {args : List V} {objs : List Ob} {S : Post} (h : acwp (COk Tryz.prog B) c9 (initSt args objs) (EndP (tabT tab) [.tmp 2] objs.length (mvOf args objs) [] S)) (hn : args.length ≤ Tryz.f9.ntmps := by exact Nat.le_of_ble_eq_true rfl) : CallS Tryz.prog B (mvOf args objs) 9 args objs S :=
  callSB tabOk mixed Tryz.func9 Tryz.call9 (hints [] [([0], []), ([], []), ([0, 15], []), ([], []), ([2], []), ([], []), ([3, 4], [.loc 3]), ([], []), ([3, 29], [.loc 3]), ([], []), ([2], []), ([], []), ([6, 7], [.loc 6, .loc 7]), ([], []), ([6, 37], [.loc 6]), ([], []), ([2], []), ([], []), ([6, 8], [.loc 6]), ([], []), ([6, 8, 9], [.loc 6]), ([], []), ([6, 8, 9, 46], [.loc 6]), ([6, 8, 9], [.loc 6]), ([6, 8, 9], [.loc 6]), ([], []), ([6, 8, 9, 10], [.loc 6, .loc 10]), ([], []), ([6, 8, 9, 10, 11], [.loc 6, .loc 10]), ([], []), ([6, 8, 9, 10, 11, 58], [.loc 6, .loc 10]), ([6, 8, 9, 10, 11], [.loc 6, .loc 10]), ([6, 8, 9, 10, 11], [.loc 6, .loc 10]), ([], []), ([6, 8, 9, 10, 11], [.loc 6, .loc 10]), ([], []), ([6, 8, 9, 10, 12], [.loc 6, .loc 10]), ([], []), ([6, 8, 9, 10, 12, 82], [.loc 6, .loc 10]), ([6, 8, 9, 10, 12], [.loc 6, .loc 10]), ([6, 8, 9, 10, 12], [.loc 6, .loc 10]), ([], []), ([6, 8, 9, 10, 12], [.loc 6, .loc 10]), ([], []), ([2], []), ([], [])]) ⟨[2], [], [], []⟩ (by kernel_rfl) rfl rfl (by decide) hn h
def c10 : AC :=
  (.seq (.reg (.mk [0, 1] [] []) [⟨none, some 4, .mvS (some 8) (.v .nils)⟩])
  (.seq (.reg (.mk [0, 1, 5] [(.loc 11), (.loc 13)] []) [⟨none, (some 11), .mkMap⟩,
 ⟨none, some 12, .build [(0, 1)] [.any] [0] [(.t 11)]⟩,
 ⟨none, some 13, .box 1 [.any] (.t 12)⟩,
 ⟨none, some 5, .mvS none (.t 13)⟩])
  (.seq (.reg (.mk [0, 1, 5, 6] [(.loc 11), (.loc 13), (.loc 14)] []) [⟨none, (some 14), .mkMap⟩,
 ⟨none, some 6, .mvS none (.t 14)⟩])
  (.seq (.seq (.reg (.mk [1, 5, 6, 15, 16, 17] [(.loc 11), (.loc 13), (.loc 14)] []) [⟨none, some 15, .mv (some 1) (.t 0)⟩,
 ⟨none, some 16, .lenSl (.t 15)⟩,
 ⟨none, some 17, .mv none (.v (.int .i64 0))⟩])
  (.block 0 (.loop (.mk [1, 5, 6, 15, 16, 17] [(.loc 11), (.loc 13), (.loc 14)] []) (.seq (.reg (.mk [1, 5, 6, 15, 16, 17, 18] [(.loc 11), (.loc 13), (.loc 14)] []) [⟨none, some 18, .bin [] .lss (.t 17) (.t 16)⟩])
  (.seq (.cond (.t 18) .skip (.exit 0))
  (.seq (.block 1 (.seq (.reg (.mk [1, 5, 6, 8, 15, 16, 17] [(.loc 11), (.loc 13), (.loc 14)] []) [⟨none, some 19, .ia (some 1) none (.t 15) (.t 17)⟩,
 ⟨none, some 20, .load none false (.t 19)⟩,
 ⟨none, some 8, .mvS none (.t 20)⟩])
  (.reg (.mk [1, 5, 6, 15, 16, 17] [(.loc 11), (.loc 13), (.loc 14)] []) [⟨none, some 21, .mv none (.t 6)⟩,
 ⟨none, some 22, .mv none (.t 8)⟩,
 ⟨none, some 23, .mv none (.t 5)⟩,
 ⟨none, some 24, .mv none (.t 8)⟩,
 ⟨none, some 25, .call [none, none] none 0 28 [(.t 23), (.t 24)]⟩,
 ⟨none, some 26, .build [(0, 1)] [(.str [])] [0] [(.t 25)]⟩,
 ⟨none, none, .mput 4 (.t 21) (.t 22) (.t 26)⟩])))
  (.reg (.mk [1, 5, 6, 15, 16, 17] [(.loc 11), (.loc 13), (.loc 14)] []) [⟨none, some 27, .bin [] .add (.t 17) (.v (.int .i64 1))⟩,
 ⟨none, some 17, .mv none (.t 27)⟩])))))))
  (.seq (.reg (.mk [9] [] []) [⟨none, some 29, .mv none (.t 5)⟩,
 ⟨none, some 30, .mv (some 7) (.t 1)⟩,
 ⟨none, some 31, .mv none (.t 6)⟩,
 ⟨none, some 32, .call [none, (some 7), none] none 0 29 [(.t 29), (.t 30), (.t 31)]⟩,
 ⟨none, some 28, .mv none (.t 32)⟩,
 ⟨none, some 33, .ext (.t 28) 0⟩,
 ⟨none, some 34, .ext (.t 28) 1⟩,
 ⟨none, some 9, .mvS (some 8) (.t 33)⟩,
 ⟨none, some 10, .mvS none (.t 34)⟩])
  (.seq (.reg (.mk [4] [] []) [⟨none, some 35, .mvS (some 8) (.t 9)⟩,
 ⟨none, some 4, .mvS (some 8) (.t 35)⟩])
  .ret))))))
theorem k10 {B : Heap} {args : List V} {objs : List Ob} {S : Post} (h : acwp (COk Tryz.prog B) c10 (initSt args objs) (EndP (tabT tab) [.tmp 4] objs.length (mvOf args objs) [] S)) (hn : args.length ≤ Tryz.f10.ntmps := by exact Nat.le_of_ble_eq_true rfl) : CallS Tryz.prog B (mvOf args objs) 10 args objs S :=
  callSB tabOk mixed Tryz.func10 Tryz.call10 (hints [] [([0, 1], []), ([], []), ([0, 1, 5], [.loc 11, .loc 13]), ([], []), ([0, 1, 5, 6], [.loc 11, .loc 13, .loc 14]), ([], []), ([1, 5, 6, 15, 16, 17], [.loc 11, .loc 13, .loc 14]), ([], []), ([1, 5, 6, 15, 16, 17, 18], [.loc 11, .loc 13, .loc 14]), ([1, 5, 6, 15, 16, 17], [.loc 11, .loc 13, .loc 14]), ([1, 5, 6, 8, 15, 16, 17], [.loc 11, .loc 13, .loc 14]), ([], []), ([1, 5, 6, 15, 16, 17], [.loc 11, .loc 13, .loc 14]), ([], []), ([1, 5, 6, 15, 16, 17], [.loc 11, .loc 13, .loc 14]), ([], []), ([9], []), ([], []), ([4], []), ([], [])]) ⟨[4], [], [], []⟩ (by kernel_rfl) rfl rfl (by decide) hn h
def c11 : AC :=
  (.seq (.reg (.mk [0] [] []) [⟨none, some 2, .mvS none (.v (.str []))⟩])
  (.seq (.reg (.mk [2] [] []) [⟨none, some 3, .mv none (.t 0)⟩,
 ⟨none, some 4, .bin [] .add (.t 3) (.v (.str [35, 48]))⟩,
 ⟨none, some 2, .mvS none (.t 4)⟩])
  .ret))
theorem k11 {B : Heap} {args : List V} {objs : List Ob} {S : Post} (h : acwp (COk Tryz.prog B) c11 (initSt args objs) (EndP (tabT tab) [.tmp 2] objs.length (mvOf args objs) [] S)) (hn : args.length ≤ Tryz.f11.ntmps := by exact Nat.le_of_ble_eq_true rfl) : CallS Tryz.prog B (mvOf args objs) 11 args objs S :=
  callSB tabOk mixed Tryz.func11 Tryz.call11 (hints [] [([0], []), ([], []), ([2], []), ([], [])]) ⟨[2], [], [], []⟩ (by kernel_rfl) rfl rfl (by decide) hn h
def c17 : AC :=
  (.seq (.reg (.mk [0] [] []) [⟨none, some 2, .mvS none (.v (.str []))⟩])
  (.seq (.reg (.mk [3] [] []) [⟨none, some 7, .mv none (.t 0)⟩,
 ⟨none, some 8, .call [none, none] none 0 36 [(.t 7), (.v (.str [35]))]⟩,
 ⟨none, some 6, .mv none (.t 8)⟩,
 ⟨none, some 9, .ext (.t 6) 0⟩,
 ⟨none, some 10, .ext (.t 6) 1⟩,
 ⟨none, some 11, .ext (.t 6) 2⟩,
 ⟨none, some 3, .mvS none (.t 9)⟩,
 ⟨none, some 4, .mvS none (.t 10)⟩,
 ⟨none, some 5, .mvS none (.t 11)⟩])
  (.seq (.reg (.mk [2] [] []) [⟨none, some 12, .mvS none (.t 3)⟩,
 ⟨none, some 2, .mvS none (.t 12)⟩])
  .ret)))
theorem k17 {B : Heap} {args : List V} {objs : List Ob} {S : Post} (h : acwp (COk Tryz.prog B) c17 (initSt args objs) (EndP (tabT tab) [.tmp 2] objs.length (mvOf args objs) [] S)) (hn : args.length ≤ Tryz.f17.ntmps := by exact Nat.le_of_ble_eq_true rfl) : CallS Tryz.prog B (mvOf args objs) 17 args objs S :=
  callSB tabOk mixed Tryz.func17 Tryz.call17 (hints [] [([0], []), ([], []), ([3], []), ([], []), ([2], []), ([], [])]) ⟨[2], [], [], []⟩ (by kernel_rfl) rfl rfl (by decide) hn h
def c18 : AC :=
  (.seq (.reg (.mk [0] [] []) [⟨none, some 2, .mvS none (.v (.str []))⟩])
  (.seq (.seq (.reg (.mk [0, 3] [] []) [⟨none, some 3, .mvS none (.v (.int .i64 0))⟩])
  (.block 0 (.loop (.mk [0, 3] [] []) (.seq (.seq (.reg (.mk [0, 3, 7] [] []) [⟨none, some 4, .mv none (.t 3)⟩,
 ⟨none, some 5, .mv none (.t 0)⟩,
 ⟨none, some 6, .lenStr (.t 5)⟩,
 ⟨none, some 7, .bin [] .lss (.t 4) (.t 6)⟩])
  (.cond (.t 7) .skip (.exit 0)))
  (.seq (.block 1 (.seq (.reg (.mk [0, 3, 13] [] []) [⟨none, some 10, .mv none (.t 0)⟩,
 ⟨none, some 11, .mv none (.t 3)⟩,
 ⟨none, some 12, .ix (.t 10) (.t 11)⟩,
 ⟨none, some 13, .bin [] .eql (.t 12) (.v (.int .u8 35))⟩])
  (.cond (.t 13) (.seq (.reg (.mk [2] [] []) [⟨none, some 14, .mv none (.t 0)⟩,
 ⟨none, some 15, .mv none (.t 3)⟩,
 ⟨none, some 16, .slc true none true (.t 14) none (some (.t 15))⟩,
 ⟨none, some 2, .mvS none (.t 16)⟩])
  .ret) .skip)))
  (.reg (.mk [0, 3] [] []) [⟨none, some 8, .mv none (.t 3)⟩,
 ⟨none, some 9, .bin [] .add (.t 8) (.v (.int .i64 1))⟩,
 ⟨none, some 3, .mvS none (.t 9)⟩]))))))
  (.seq (.reg (.mk [2] [] []) [⟨none, some 17, .mvS none (.t 0)⟩,
 ⟨none, some 2, .mvS none (.t 17)⟩])
  .ret)))
theorem k18 {B : Heap} {args : List V} {objs : List Ob} {S : Post} (h : acwp (COk Tryz.prog B) c18 (initSt args objs) (EndP (tabT tab) [.tmp 2] objs.length (mvOf args objs) [] S)) (hn : args.length ≤ Tryz.f18.ntmps := by exact Nat.le_of_ble_eq_true rfl) : CallS Tryz.prog B (mvOf args objs) 18 args objs S :=
  callSB tabOk mixed Tryz.func18 Tryz.call18 (hints [] [([0], []), ([], []), ([0, 3], []), ([], []), ([0, 3, 7], []), ([0, 3], []), ([0, 3], []), ([], []), ([0, 3, 13], []), ([], []), ([2], []), ([], []), ([2], []), ([], [])]) ⟨[2], [], [], []⟩ (by kernel_rfl) rfl rfl (by decide) hn h
def c25 : AC :=
  (.seq (.reg (.mk [0, 2] [(.loc 2)] []) [⟨none, some 2, .alloc [(.own 9 []), (.own 7 [])]⟩,
 ⟨none, some 3, .mvS none (.v (.int .i64 0))⟩,
 ⟨none, some 4, .mvS none (.v (.int .i64 0))⟩])
  (.seq (.reg (.mk [0, 2, 5, 6, 7] [(.loc 2)] []) [⟨none, some 11, .mv none (.t 0)⟩,
 ⟨none, some 12, .call [none] none 0 43 [(.t 11)]⟩,
 ⟨none, some 10, .mv none (.t 12)⟩,
 ⟨none, some 13, .ext (.t 10) 0⟩,
 ⟨none, some 14, .ext (.t 10) 1⟩,
 ⟨none, some 15, .ext (.t 10) 2⟩,
 ⟨none, some 5, .mvS (some 3) (.t 13)⟩,
 ⟨none, some 6, .mvS none (.t 14)⟩,
 ⟨none, some 7, .mvS none (.t 15)⟩])
  (.seq (.seq (.reg (.mk [0, 2, 5, 6, 7, 17] [(.loc 2)] []) [⟨none, some 16, .mv none (.t 6)⟩,
 ⟨none, some 17, .bin [] .neq (.t 16) (.v (.int .i64 0))⟩])
  (.cond (.t 17) (.seq (.reg (.mk [2, 3, 4] [(.loc 2)] []) [⟨none, some 18, .build [(0, 1), (1, 1)] [(.own 9 []), (.own 7 [])] [] []⟩,
 ⟨none, some 19, .mvS none (.t 6)⟩,
 ⟨none, some 20, .mvS none (.t 7)⟩,
 ⟨none, none, .store 2 none (.t 2) (.t 18)⟩,
 ⟨none, some 3, .mvS none (.t 19)⟩,
 ⟨none, some 4, .mvS none (.t 20)⟩])
  .ret) .skip))
  (.seq (.reg (.mk [2, 8] [(.loc 2), (.loc 25)] []) [⟨none, some 21, .mv (some 3) (.t 5)⟩,
 ⟨none, some 22, .mv none (.t 0)⟩,
 ⟨none, some 23, .lenStr (.t 22)⟩,
 ⟨none, some 24, .build [(0, 1), (1, 1), (2, 1), (3, 1), (4, 1), (5, 1)] [(.own 3 []), (.int .i64 0), (.int .i64 0), (.int .i64 0), (.int .i64 0), (.int .i64 0)] [0, 2] [(.t 21), (.t 23)]⟩,
 ⟨none, some 25, .box 6 [(.own 3 []), (.int .i64 0), (.int .i64 0), (.int .i64 0), (.int .i64 0), (.int .i64 0)] (.t 24)⟩,
 ⟨none, some 8, .mvS none (.t 25)⟩])
  (.seq (.reg (.mk [2, 8, 9] [(.loc 2), (.loc 9), (.loc 25)] []) [⟨none, some 9, .alloc [(.own 9 []), (.own 7 [])]⟩])
  (.seq (.block 0 (.loop (.mk [2, 8, 9] [(.loc 2), (.loc 9), (.loc 25)] []) (.seq (.seq (.reg (.mk [2, 8, 9, 31] [(.loc 2), (.loc 9), (.loc 25)] []) [⟨none, some 26, .mv none (.t 8)⟩,
 ⟨none, some 27, .call [none, none, none] none 0 44 [(.t 26), (.v (.int .i64 0)), (.v (.str [99, 108, 97, 115, 115]))]⟩,
 ⟨none, some 28, .mv none (.t 27)⟩,
 ⟨some (28, false), some 29, .mv none (.t 8)⟩,
 ⟨some (28, false), some 30, .call [none, none, none] none 0 44 [(.t 29), (.v (.int .i64 0)), (.v (.str [105, 110, 116, 101, 114, 102, 97, 99, 101]))]⟩,
 ⟨none, some 31, .pick (.t 28) (.v (.bool true)) (.t 30)⟩])
  (.cond (.t 31) .skip (.exit 0)))
  (.block 1 (.seq (.reg (.mk [2, 8, 9, 33] [(.loc 2), (.loc 9), (.loc 25)] []) [⟨none, some 32, .mv none (.t 8)⟩,
 ⟨none, some 33, .call [none, none, none] none 0 44 [(.t 32), (.v (.int .i64 0)), (.v (.str [99, 108, 97, 115, 115]))]⟩])
  (.cond (.t 33) (.regD (.mk [2, 8, 9] [(.loc 2), (.loc 9), (.loc 25)] []) [(0, 2), (1, 2), (0, 3), (1, 3), (0, 4), (1, 4)] [⟨none, some 34, .fa 0 (.t 9)⟩,
 ⟨none, some 35, .load none true (.t 34)⟩,
 ⟨none, some 36, .mv none (.t 8)⟩,
 ⟨none, some 37, .call [none] none 0 45 [(.t 36)]⟩,
 ⟨none, some 38, .buildSl 9 [(.t 37)]⟩,
 ⟨none, some 39, .app 9 168 (.t 35) (.t 38)⟩,
 ⟨none, some 40, .fa 0 (.t 9)⟩,
 ⟨none, none, (.store 1 (some 9) (.t 40) (.t 39))⟩]) (.regD (.mk [2, 8, 9] [(.loc 2), (.loc 9), (.loc 25)] []) [(0, 2), (1, 2), (0, 3), (1, 3), (0, 4), (1, 4)] [⟨none, (some 41), (.fa 0 (.t 9))⟩,
 ⟨none, some 42, .load none true (.t 41)⟩,
 ⟨none, some 43, .mv none (.t 8)⟩,
 ⟨none, some 44, .call [none] none 0 46 [(.t 43)]⟩,
 ⟨none, some 45, .buildSl 9 [(.t 44)]⟩,
 ⟨none, some 46, .app 9 168 (.t 42) (.t 45)⟩,
 ⟨none, some 47, .fa 0 (.t 9)⟩,
 ⟨none, none, .store 1 (some 9) (.t 47) (.t 46)⟩])))))))
  (.seq (.reg (.mk [2, 8, 9] [(.loc 2), (.loc 9), (.loc 25)] []) [⟨none, some 48, .mv none (.t 8)⟩,
 ⟨none, some 49, .call [none, none] none 0 47 [(.t 48), (.v (.str [109, 97, 105, 110]))]⟩])
  (.seq (.reg (.mk [2, 8, 9] [(.loc 2), (.loc 9), (.loc 25)] []) [⟨none, some 50, .mv none (.t 8)⟩,
 ⟨none, some 51, .call [none] none 0 48 [(.t 50)]⟩,
 ⟨none, some 52, .fa 1 (.t 9)⟩,
 ⟨none, none, .store 1 (some 7) (.t 52) (.t 51)⟩])
  (.seq (.seq (.regD (.mk [2, 8, 9, 62] [(.loc 2), (.loc 9), (.loc 25)] []) [(0, 4), (1, 4), (2, 4), (3, 4), (0, 5), (1, 5), (2, 5), (3, 5), (0, 6), (1, 6), (2, 6), (3, 6), (0, 7), (1, 7), (2, 7), (0, 8), (1, 8), (2, 8), (3, 8)] [⟨none, some 53, .mv none (.t 8)⟩,
 ⟨none, some 54, .nilc (.t 53)⟩,
 ⟨none, some 55, .fa 1 (.t 54)⟩,
 ⟨none, some 56, .load none false (.t 55)⟩,
 ⟨none, some 57, .mv none (.t 8)⟩,
 ⟨none, some 58, .nilc (.t 57)⟩,
 ⟨none, some 59, .fa 0 (.t 58)⟩,
 ⟨none, some 60, .load none false (.t 59)⟩,
 ⟨none, some 61, .lenSl (.t 60)⟩,
 ⟨none, some 62, .bin [] .lss (.t 56) (.t 61)⟩])
  (.cond (.t 62) (.reg (.mk [2, 8, 9] [(.loc 2), (.loc 9), (.loc 25)] []) [⟨none, some 63, .mv none (.t 8)⟩,
 ⟨none, some 64, .call [none, none] none 0 49 [(.t 63), (.v (.int .i64 110))]⟩]) .skip))
  (.seq (.seq (.reg (.mk [2, 8, 9, 69] [(.loc 2), (.loc 9), (.loc 25)] []) [⟨none, some 65, .mv none (.t 8)⟩,
 ⟨none, some 66, .nilc (.t 65)⟩,
 ⟨none, some 67, .fa 4 (.t 66)⟩,
 ⟨none, some 68, .load none false (.t 67)⟩,
 ⟨none, some 69, .bin [] .neq (.t 68) (.v (.int .i64 0))⟩])
  (.cond (.t 69) (.seq (.regD (.mk [2, 3, 4] [(.loc 2)] []) [(0, 1), (0, 2), (0, 3), (0, 4), (0, 5), (1, 5), (2, 5), (3, 5), (4, 5), (0, 6), (1, 6), (2, 6), (3, 6), (4, 6), (0, 7), (1, 7), (2, 7), (3, 7), (4, 7), (0, 8), (1, 8), (2, 8), (3, 8), (4, 8), (1, 9), (2, 9), (3, 9), (4, 9), (5, 9), (6, 9), (7, 9), (8, 9), (5, 10), (6, 10), (7, 10), (8, 10)] [⟨none, some 70, .build [(0, 1), (1, 1)] [(.own 9 []), (.own 7 [])] [] []⟩,
 ⟨none, some 71, .mv none (.t 8)⟩,
 ⟨none, some 72, .nilc (.t 71)⟩,
 ⟨none, some 73, .fa 4 (.t 72)⟩,
 ⟨none, some 74, .load none true (.t 73)⟩,
 ⟨none, some 75, .mv none (.t 8)⟩,
 ⟨none, some 76, .nilc (.t 75)⟩,
 ⟨none, some 77, .fa 5 (.t 76)⟩,
 ⟨none, some 78, .load none true (.t 77)⟩,
 ⟨none, none, .store 2 none (.t 2) (.t 70)⟩,
 ⟨none, some 3, .mvS none (.t 74)⟩,
 ⟨none, some 4, .mvS none (.t 78)⟩])
  .ret) .skip))
  (.seq (.reg (.mk [2, 3, 4] [(.loc 2)] []) [⟨none, some 79, .load (some 2) false (.t 9)⟩,
 ⟨none, none, .store 2 none (.t 2) (.t 79)⟩,
 ⟨none, some 3, .mvS none (.v (.int .i64 0))⟩,
 ⟨none, some 4, .mvS none (.v (.int .i64 0))⟩])
  .ret)))))))))))
theorem k25 {B : Heap} {args : List V} {objs : List Ob} {S : Post} (h : acwp (COk Tryz.prog B) c25 (initSt args objs) (EndP (tabT tab) [.cell 2 66, .tmp 3, .tmp 4] objs.length (mvOf args objs) [] S)) (hn : args.length ≤ Tryz.f25.ntmps := by exact Nat.le_of_ble_eq_true rfl) : CallS Tryz.prog B (mvOf args objs) 25 args objs S :=
  callSB tabOk mixed Tryz.func25 Tryz.call25 (hints [] [([0, 2], [.loc 2]), ([], []), ([0, 2, 5, 6, 7], [.loc 2]), ([], []), ([0, 2, 5, 6, 7, 17], [.loc 2]), ([], []), ([2, 3, 4], [.loc 2]), ([], []), ([2, 8], [.loc 2, .loc 25]), ([], []), ([2, 8, 9], [.loc 2, .loc 9, .loc 25]), ([], []), ([2, 8, 9, 31], [.loc 2, .loc 9, .loc 25]), ([2, 8, 9], [.loc 2, .loc 9, .loc 25]), ([2, 8, 9, 33], [.loc 2, .loc 9, .loc 25]), ([], []), ([2, 8, 9], [.loc 2, .loc 9, .loc 25]), ([], []), ([2, 8, 9], [.loc 2, .loc 9, .loc 25]), ([], []), ([2, 8, 9], [.loc 2, .loc 9, .loc 25]), ([], []), ([2, 8, 9], [.loc 2, .loc 9, .loc 25]), ([], []), ([2, 8, 9, 62], [.loc 2, .loc 9, .loc 25]), ([], []), ([2, 8, 9], [.loc 2, .loc 9, .loc 25]), ([], []), ([2, 8, 9, 69], [.loc 2, .loc 9, .loc 25]), ([], []), ([2, 3, 4], [.loc 2]), ([], []), ([2, 3, 4], [.loc 2]), ([], [])]) ⟨[2, 3, 4], [], [], []⟩ (by kernel_rfl) rfl rfl (by decide) hn h
def c26 : AC :=
  (.seq (.reg (.mk [1, 2, 3] [(.loc 1), (.loc 2), (.loc 3)] []) [⟨none, some 1, .box 2 [(.own 9 []), (.own 7 [])] (.t 0)⟩,
 ⟨none, some 2, .alloc [(.own 9 []), (.own 7 [])]⟩,
 ⟨none, some 3, .alloc [(.int .i64 0), (.int .i64 0)]⟩])
  (.seq (.reg (.mk [1, 2, 3, 4] [(.loc 1), (.loc 2), (.loc 3), (.loc 4)] []) [⟨none, some 4, .alloc [(.int .i64 0), (.int .i64 0)]⟩])
  (.seq (.seq (.reg (.mk [1, 2, 3, 4, 5, 6] [(.loc 1), (.loc 2), (.loc 3), (.loc 4)] []) [⟨none, some 11, .fa 0 (.t 1)⟩,
 ⟨none, some 12, .load none false (.t 11)⟩,
 ⟨none, some 13, .call [(some 9)] none 0 50 [(.t 12)]⟩,
 ⟨none, some 10, .mv none (.t 13)⟩,
 ⟨none, some 14, .ext (.t 10) 0⟩,
 ⟨none, some 15, .ext (.t 10) 1⟩,
 ⟨none, some 5, .mvS none (.t 14)⟩,
 ⟨none, some 6, .mvS none (.t 15)⟩])
  (.seq (.reg (.mk [1, 2, 3, 4, 5, 6, 17] [(.loc 1), (.loc 2), (.loc 3), (.loc 4)] []) [⟨none, some 16, .mv none (.t 5)⟩,
 ⟨none, some 17, .bin [] .neq (.t 16) (.v (.int .i64 0))⟩])
  (.cond (.t 17) (.seq (.reg (.mk [2, 3] [(.loc 2), (.loc 3)] []) [⟨none, some 18, .build [(0, 1), (1, 1)] [(.own 9 []), (.own 7 [])] [] []⟩,
 ⟨none, some 19, .mv none (.t 5)⟩,
 ⟨none, some 20, .mv none (.t 6)⟩,
 ⟨none, some 21, .build [(0, 1), (1, 1)] [(.int .i64 0), (.int .i64 0)] [0, 1] [(.t 19), (.t 20)]⟩,
 ⟨none, none, .store 2 none (.t 2) (.t 18)⟩,
 ⟨none, none, .store 2 none (.t 3) (.t 21)⟩])
  .ret) .skip)))
  (.seq (.reg (.mk [1, 2, 3, 4, 7] [(.loc 1), (.loc 2), (.loc 3), (.loc 4), (.loc 7)] []) [⟨none, some 22, .fa 0 (.t 1)⟩,
 ⟨none, some 23, .load none false (.t 22)⟩,
 ⟨none, some 24, .build [(0, 1), (1, 1), (2, 1), (3, 1), (4, 1), (5, 1)] [(.own 9 []), (.str []), (.own 8 []), (.bool false), (.own 6 []), .nilp] [0, 5] [(.t 23), (.t 4)]⟩,
 ⟨none, some 7, .alloc [(.own 9 []), (.str []), (.own 8 []), (.bool false), (.own 6 []), .nilp]⟩,
 ⟨none, none, .store 6 none (.t 7) (.t 24)⟩])
  (.seq (.reg (.mk [1, 2, 3, 4, 7, 8] [(.loc 1), (.loc 2), (.loc 3), (.loc 4), (.loc 7), (.loc 8)] []) [⟨none, some 8, .alloc [(.own 9 []), (.own 7 [])]⟩])
  (.seq (.seq (.reg (.mk [1, 2, 3, 4, 7, 8, 9] [(.loc 1), (.loc 2), (.loc 3), (.loc 4), (.loc 7), (.loc 8)] []) [⟨none, some 9, .mvS none (.v (.int .i64 0))⟩])
  (.block 0 (.loop (.mk [1, 2, 3, 4, 7, 8, 9] [(.loc 1), (.loc 2), (.loc 3), (.loc 4), (.loc 7), (.loc 8)] []) (.seq (.seq (.reg (.mk [1, 2, 3, 4, 7, 8, 9, 29] [(.loc 1), (.loc 2), (.loc 3), (.loc 4), (.loc 7), (.loc 8)] []) [⟨none, some 25, .mv none (.t 9)⟩,
 ⟨none, some 26, .fa 0 (.t 1)⟩,
 ⟨none, some 27, .load none false (.t 26)⟩,
 ⟨none, some 28, .lenSl (.t 27)⟩,
 ⟨none, some 29, .bin [] .lss (.t 25) (.t 28)⟩])
  (.cond (.t 29) .skip (.exit 0)))
  (.seq (.block 1 (.regD (.mk [1, 2, 3, 4, 7, 8, 9] [(.loc 1), (.loc 2), (.loc 3), (.loc 4), (.loc 7), (.loc 8)] []) [(0, 2), (0, 3), (1, 3), (2, 3), (0, 4), (0, 5), (1, 5), (2, 5), (3, 5), (4, 5), (0, 6), (1, 6), (2, 6), (0, 7), (0, 8), (1, 8), (0, 9), (1, 9)] [⟨none, some 32, .fa 0 (.t 8)⟩,
 ⟨none, some 33, .load none true (.t 32)⟩,
 ⟨none, some 34, .load (some 6) false (.t 7)⟩,
 ⟨none, some 35, .fa 0 (.t 1)⟩,
 ⟨none, some 36, .load none false (.t 35)⟩,
 ⟨none, some 37, .mv none (.t 9)⟩,
 ⟨none, some 38, .ia (some 9) none (.t 36) (.t 37)⟩,
 ⟨none, some 39, .load (some 9) false (.t 38)⟩,
 ⟨none, some 40, .call [none, none] none 0 51 [(.t 34), (.t 39)]⟩,
 ⟨none, some 41, .buildSl 9 [(.t 40)]⟩,
 ⟨none, some 42, .app 9 168 (.t 33) (.t 41)⟩,
 ⟨none, some 43, .fa 0 (.t 8)⟩,
 ⟨none, none, .store 1 (some 9) (.t 43) (.t 42)⟩]))
  (.reg (.mk [1, 2, 3, 4, 7, 8, 9] [(.loc 1), (.loc 2), (.loc 3), (.loc 4), (.loc 7), (.loc 8)] []) [⟨none, some 30, .mv none (.t 9)⟩,
 ⟨none, some 31, .bin [] .add (.t 30) (.v (.int .i64 1))⟩,
 ⟨none, some 9, .mvS none (.t 31)⟩]))))))
  (.seq (.reg (.mk [2, 3, 4, 8] [(.loc 2), (.loc 3), (.loc 4), (.loc 8)] []) [⟨none, some 44, .load (some 6) false (.t 7)⟩,
 ⟨none, some 45, .fa 1 (.t 1)⟩,
 ⟨none, some 46, .load none false (.t 45)⟩,
 ⟨none, some 47, .call [none, (some 7)] none 0 52 [(.t 44), (.t 46)]⟩,
 ⟨none, some 48, .fa 1 (.t 8)⟩,
 ⟨none, none, .store 1 (some 7) (.t 48) (.t 47)⟩])
  (.seq (.seq (.reg (.mk [2, 3, 4, 8, 51] [(.loc 2), (.loc 3), (.loc 4), (.loc 8)] []) [⟨none, some 49, .fa 0 (.t 4)⟩,
 ⟨none, some 50, .load none false (.t 49)⟩,
 ⟨none, some 51, .bin [] .neq (.t 50) (.v (.int .i64 0))⟩])
  (.cond (.t 51) (.seq (.regD (.mk [2, 3] [(.loc 2), (.loc 3)] []) [(0, 1), (1, 2)] [⟨none, some 52, .build [(0, 1), (1, 1)] [(.own 9 []), (.own 7 [])] [] []⟩,
 ⟨none, some 53, .load (some 2) false (.t 4)⟩,
 ⟨none, none, .store 2 none (.t 2) (.t 52)⟩,
 ⟨none, none, .store 2 none (.t 3) (.t 53)⟩])
  .ret) .skip))
  (.seq (.regD (.mk [2, 3] [(.loc 2), (.loc 3)] []) [(1, 2)] [⟨none, some 54, .load (some 2) false (.t 8)⟩,
 ⟨none, some 55, .load (some 2) false (.t 4)⟩,
 ⟨none, none, .store 2 none (.t 2) (.t 54)⟩,
 ⟨none, none, .store 2 none (.t 3) (.t 55)⟩])
  .ret)))))))))
theorem k26 {B : Heap} {args : List V} {objs : List Ob} {S : Post} (h : acwp (COk Tryz.prog B) c26 (initSt args objs) (EndP (tabT tab) [.cell 2 66, .cell 3 71] objs.length (mvOf args objs) [] S)) (hn : args.length ≤ Tryz.f26.ntmps := by exact Nat.le_of_ble_eq_true rfl) : CallS Tryz.prog B (mvOf args objs) 26 args objs S :=
  callSB tabOk mixed Tryz.func26 Tryz.call26 (hints [] [([1, 2, 3], [.loc 1, .loc 2, .loc 3]), ([], []), ([1, 2, 3, 4], [.loc 1, .loc 2, .loc 3, .loc 4]), ([], []), ([1, 2, 3, 4, 5, 6], [.loc 1, .loc 2, .loc 3, .loc 4]), ([], []), ([1, 2, 3, 4, 5, 6, 17], [.loc 1, .loc 2, .loc 3, .loc 4]), ([], []), ([2, 3], [.loc 2, .loc 3]), ([], []), ([1, 2, 3, 4, 7], [.loc 1, .loc 2, .loc 3, .loc 4, .loc 7]), ([], []), ([1, 2, 3, 4, 7, 8], [.loc 1, .loc 2, .loc 3, .loc 4, .loc 7, .loc 8]), ([], []), ([1, 2, 3, 4, 7, 8, 9], [.loc 1, .loc 2, .loc 3, .loc 4, .loc 7, .loc 8]), ([], []), ([1, 2, 3, 4, 7, 8, 9, 29], [.loc 1, .loc 2, .loc 3, .loc 4, .loc 7, .loc 8]), ([1, 2, 3, 4, 7, 8, 9], [.loc 1, .loc 2, .loc 3, .loc 4, .loc 7, .loc 8]), ([1, 2, 3, 4, 7, 8, 9], [.loc 1, .loc 2, .loc 3, .loc 4, .loc 7, .loc 8]), ([], []), ([1, 2, 3, 4, 7, 8, 9], [.loc 1, .loc 2, .loc 3, .loc 4, .loc 7, .loc 8]), ([], []), ([2, 3, 4, 8], [.loc 2, .loc 3, .loc 4, .loc 8]), ([], []), ([2, 3, 4, 8, 51], [.loc 2, .loc 3, .loc 4, .loc 8]), ([], []), ([2, 3], [.loc 2, .loc 3]), ([], []), ([2, 3], [.loc 2, .loc 3]), ([], [])]) ⟨[2, 3], [], [], []⟩ (by kernel_rfl) rfl rfl (by decide) hn h
def c28 : AC :=
  (.seq (.reg (.mk [0, 1] [(.par 0), (.par 1)] []) [⟨none, some 4, .mvS none (.v (.str []))⟩])
  (.seq (.reg (.mk [0, 1, 5] [(.par 0), (.par 1)] []) [⟨none, some 6, .mv none (.t 0)⟩,
 ⟨none, some 7, .nilc (.t 6)⟩,
 ⟨none, some 8, .fa 0 (.t 7)⟩,
 ⟨none, some 9, .load none false (.t 8)⟩,
 ⟨none, some 10, .mv none (.t 1)⟩,
 ⟨none, some 11, .mlook 4 (.int .i64 0) false (.t 9) (.t 10)⟩,
 ⟨none, some 5, .mvS none (.t 11)⟩])
  (.seq (.reg (.mk [1, 5] [(.par 0), (.par 1)] []) [⟨none, some 12, .mv none (.t 0)⟩,
 ⟨none, some 13, .nilc (.t 12)⟩,
 ⟨none, some 14, .fa 0 (.t 13)⟩,
 ⟨none, some 15, .load none false (.t 14)⟩,
 ⟨none, some 16, .mv none (.t 1)⟩,
 ⟨none, some 17, .mlook 4 (.int .i64 0) false (.t 15) (.t 16)⟩,
 ⟨none, some 18, .bin [] .add (.t 17) (.v (.int .i64 1))⟩,
 ⟨none, none, .mput 4 (.t 15) (.t 16) (.t 18)⟩])
  (.seq (.reg (.mk [4] [(.par 0), (.par 1)] []) [⟨none, some 19, .mv none (.t 1)⟩,
 ⟨none, some 20, .bin [] .add (.t 19) (.v (.str [35]))⟩,
 ⟨none, some 21, .mv none (.t 5)⟩,
 ⟨none, some 22, .call [none] none 0 53 [(.t 21)]⟩,
 ⟨none, some 23, .bin [] .add (.t 20) (.t 22)⟩,
 ⟨none, some 4, .mvS none (.t 23)⟩])
  .ret))))
theorem k28 {B : Heap} {args : List V} {objs : List Ob} {S : Post} (h : acwp (COk Tryz.prog B) c28 (initSt args objs) (EndP (tabT tab) [.tmp 4] objs.length (mvOf args objs) [] S)) (hn : args.length ≤ Tryz.f28.ntmps := by exact Nat.le_of_ble_eq_true rfl) : CallS Tryz.prog B (mvOf args objs) 28 args objs S :=
  callSB tabOk mixed Tryz.func28 Tryz.call28 (hints [] [([0, 1], [.par 0, .par 1]), ([], [.par 0, .par 1]), ([0, 1, 5], [.par 0, .par 1]), ([], [.par 0, .par 1]), ([1, 5], [.par 0, .par 1]), ([], [.par 0, .par 1]), ([4], [.par 0, .par 1]), ([], [.par 0, .par 1])]) ⟨[4], [], [], []⟩ (by kernel_rfl) rfl rfl (by decide) hn h
def c29 : AC :=
  (.seq (.reg (.mk [0, 1, 2] [(.par 0), (.par 1), (.par 2)] []) [⟨none, some 6, .mvS (some 8) (.v .nils)⟩,
 ⟨none, some 7, .mvS none (.v (.bool false))⟩])
  (.seq (.reg (.mk [0, 1, 2, 8] [(.par 0), (.par 1), (.par 2)] []) [⟨none, some 8, .mvS (some 8) (.v .nils)⟩])
  (.seq (.reg (.mk [0, 1, 2, 8, 9] [(.par 0), (.par 1), (.par 2)] []) [⟨none, some 9, .mvS none (.v (.bool true))⟩])
  (.seq (.seq (.reg (.mk [0, 2, 8, 9, 14, 15, 16] [(.par 0), (.par 1), (.par 2)] []) [⟨none, some 14, .mv (some 7) (.t 1)⟩,
 ⟨none, some 15, .lenSl (.t 14)⟩,
 ⟨none, some 16, .mv none (.v (.int .i64 0))⟩])
  (.block 0 (.loop (.mk [0, 2, 8, 9, 14, 15, 16] [(.par 0), (.par 1), (.par 2)] []) (.seq (.reg (.mk [0, 2, 8, 9, 14, 15, 16, 17] [(.par 0), (.par 1), (.par 2)] []) [⟨none, some 17, .bin [] .lss (.t 16) (.t 15)⟩])
  (.seq (.cond (.t 17) .skip (.exit 0))
  (.seq (.block 1 (.seq (.reg (.mk [0, 2, 8, 9, 11, 14, 15, 16] [(.par 0), (.par 1), (.par 2), (.loc 11)] []) [⟨none, some 18, .ia (some 7) none (.t 14) (.t 16)⟩,
 ⟨none, some 19, .load (some 7) false (.t 18)⟩,
 ⟨none, some 11, .alloc [(.str []), (.str []), (.own 6 []), (.own 5 []), (.own 7 []), (.own 7 []), (.int .i64 0)]⟩,
 ⟨none, none, .store 7 none (.t 11) (.t 19)⟩])
  (.seq (.reg (.mk [0, 2, 8, 9, 12, 13, 14, 15, 16] [(.par 0), (.par 1), (.par 2), (.loc 12)] []) [⟨none, some 21, .mv none (.t 0)⟩,
 ⟨none, some 22, .load (some 7) false (.t 11)⟩,
 ⟨none, some 23, .mv none (.t 2)⟩,
 ⟨none, some 24, .call [none, none, none] none 0 54 [(.t 21), (.t 22), (.t 23)]⟩,
 ⟨none, some 20, .mv none (.t 24)⟩,
 ⟨none, some 25, .ext (.t 20) 0⟩,
 ⟨none, some 26, .ext (.t 20) 1⟩,
 ⟨none, some 12, .alloc [(.str []), (.str []), (.own 6 []), (.own 5 []), (.own 8 []), (.own 8 []), (.own 4 []), (.int .i64 0)]⟩,
 ⟨none, none, .store 8 none (.t 12) (.t 25)⟩,
 ⟨none, some 13, .mvS none (.t 26)⟩])
  (.seq (.reg (.mk [0, 2, 8, 9, 13, 14, 15, 16] [(.par 0), (.par 1), (.par 2)] []) [⟨none, some 27, .mvS (some 8) (.t 8)⟩,
 ⟨none, some 28, .load (some 8) false (.t 12)⟩,
 ⟨none, some 29, .buildSlZ 8 [(.str []), (.str []), (.own 6 []), (.own 5 []), (.own 8 []), (.own 8 []), (.own 4 []), (.int .i64 0)] [(.t 28)]⟩,
 ⟨none, some 30, .app 8 160 (.t 27) (.t 29)⟩,
 ⟨none, some 8, .mvS (some 8) (.t 30)⟩])
  (.reg (.mk [0, 2, 8, 9, 14, 15, 16] [(.par 0), (.par 1), (.par 2)] []) [⟨none, some 31, .mv none (.t 9)⟩,
 ⟨none, some 32, .mv none (.t 31)⟩,
 ⟨some (32, true), some 33, .mv none (.t 13)⟩,
 ⟨none, some 34, .pick (.t 32) (.t 33) (.v (.bool false))⟩,
 ⟨none, some 9, .mvS none (.t 34)⟩])))))
  (.reg (.mk [0, 2, 8, 9, 14, 15, 16] [(.par 0), (.par 1), (.par 2)] []) [⟨none, some 35, .bin [] .add (.t 16) (.v (.int .i64 1))⟩,
 ⟨none, some 16, .mv none (.t 35)⟩])))))))
  (.seq (.reg (.mk [6, 7] [(.par 0), (.par 1), (.par 2)] []) [⟨none, some 36, .mvS (some 8) (.t 8)⟩,
 ⟨none, some 37, .mvS none (.t 9)⟩,
 ⟨none, some 6, .mvS (some 8) (.t 36)⟩,
 ⟨none, some 7, .mvS none (.t 37)⟩])
  .ret)))))
theorem k29 {B : Heap} {args : List V} {objs : List Ob} {S : Post} (h : acwp (COk Tryz.prog B) c29 (initSt args objs) (EndP (tabT tab) [.tmp 6, .tmp 7] objs.length (mvOf args objs) [] S)) (hn : args.length ≤ Tryz.f29.ntmps := by exact Nat.le_of_ble_eq_true rfl) : CallS Tryz.prog B (mvOf args objs) 29 args objs S :=
  callSB tabOk mixed Tryz.func29 Tryz.call29 (hints [] [([0, 1, 2], [.par 0, .par 1, .par 2]), ([], [.par 0, .par 1, .par 2]), ([0, 1, 2, 8], [.par 0, .par 1, .par 2]), ([], [.par 0, .par 1, .par 2]), ([0, 1, 2, 8, 9], [.par 0, .par 1, .par 2]), ([], [.par 0, .par 1, .par 2]), ([0, 2, 8, 9, 14, 15, 16], [.par 0, .par 1, .par 2]), ([], [.par 0, .par 1, .par 2]), ([0, 2, 8, 9, 14, 15, 16, 17], [.par 0, .par 1, .par 2]), ([0, 2, 8, 9, 14, 15, 16], [.par 0, .par 1, .par 2]), ([0, 2, 8, 9, 11, 14, 15, 16], [.par 0, .par 1, .par 2, .loc 11]), ([], [.par 0, .par 1, .par 2]), ([0, 2, 8, 9, 12, 13, 14, 15, 16], [.par 0, .par 1, .par 2, .loc 12]), ([], [.par 0, .par 1, .par 2]), ([0, 2, 8, 9, 13, 14, 15, 16], [.par 0, .par 1, .par 2]), ([], [.par 0, .par 1, .par 2]), ([0, 2, 8, 9, 14, 15, 16], [.par 0, .par 1, .par 2]), ([], [.par 0, .par 1, .par 2]), ([0, 2, 8, 9, 14, 15, 16], [.par 0, .par 1, .par 2]), ([], [.par 0, .par 1, .par 2]), ([6, 7], [.par 0, .par 1, .par 2]), ([], [.par 0, .par 1, .par 2])]) ⟨[6, 7], [], [], []⟩ (by kernel_rfl) rfl rfl (by decide) hn h
end Go.Proofs.YtcdoebbffjejeaaGreatDoor
namespace Go.Proofs.YtcdoebbffjejeaaGreatDoor
open Go.Ax
def c43 : AC :=
  (.seq (.reg (.mk [0] [] []) [⟨none, some 2, .mvS (some 3) (.v .nils)⟩,
 ⟨none, some 3, .mvS none (.v (.int .i64 0))⟩,
 ⟨none, some 4, .mvS none (.v (.int .i64 0))⟩])
  (.seq (.seq (.reg (.mk [0, 12] [] []) [⟨none, some 10, .mv none (.t 0)⟩,
 ⟨none, some 11, .lenStr (.t 10)⟩,
 ⟨none, some 12, .bin [] .gtr (.t 11) (.v (.int .i64 65536))⟩])
  (.cond (.t 12) (.seq (.reg (.mk [2, 3, 4] [] []) [⟨none, some 2, .mvS (some 3) (.v .nils)⟩,
 ⟨none, some 3, .mvS none (.v (.int .i64 2))⟩,
 ⟨none, some 4, .mvS none (.v (.int .i64 65536))⟩])
  .ret) .skip))
  (.seq (.reg (.mk [0, 5] [] []) [⟨none, some 5, .mvS (some 3) (.v .nils)⟩])
  (.seq (.seq (.reg (.mk [0, 5, 6] [] []) [⟨none, some 13, .mv none (.t 0)⟩,
 ⟨none, some 14, .call [none, none] none 0 63 [(.t 13), (.v (.int .i64 0))]⟩,
 ⟨none, some 6, .mvS none (.t 14)⟩])
  (.block 0 (.loop (.mk [0, 5, 6] [] []) (.seq (.seq (.reg (.mk [0, 5, 6, 18] [] []) [⟨none, some 15, .mv none (.t 6)⟩,
 ⟨none, some 16, .mv none (.t 0)⟩,
 ⟨none, some 17, .lenStr (.t 16)⟩,
 ⟨none, some 18, .bin [] .lss (.t 15) (.t 17)⟩])
  (.cond (.t 18) .skip (.exit 0)))
  (.seq (.block 1 (.seq (.reg (.mk [0, 5, 6, 7] [] []) [⟨none, some 22, .mv none (.t 0)⟩,
 ⟨none, some 23, .mv none (.t 6)⟩,
 ⟨none, some 24, .ix (.t 22) (.t 23)⟩,
 ⟨none, some 25, .call [none] none 0 64 [(.t 24)]⟩,
 ⟨none, some 7, .mvS none (.t 25)⟩])
  (.seq (.reg (.mk [0, 5, 6, 7, 8] [] []) [⟨none, some 26, .mv none (.t 0)⟩,
 ⟨none, some 27, .mv none (.t 6)⟩,
 ⟨none, some 28, .mv none (.t 7)⟩,
 ⟨none, some 29, .bin [] .eql (.t 28) (.v (.int .i64 1))⟩,
 ⟨none, some 30, .call [none, none, none] none 0 65 [(.t 26), (.t 27), (.t 29)]⟩,
 ⟨none, some 8, .mvS none (.t 30)⟩])
  (.seq (.block 2 (.seq (.reg (.mk [0, 5, 6, 7, 8, 31] [] []) [⟨none, some 32, .mv none (.t 7)⟩,
 ⟨none, some 33, .bin [] .eql (.t 32) (.v (.int .i64 0))⟩,
 ⟨none, some 31, .mvS none (.t 33)⟩])
  (.cond (.t 31) (.seq (.reg (.mk [0, 5, 6, 9] [] []) [⟨none, some 34, .mv none (.t 0)⟩,
 ⟨none, some 35, .mv none (.t 6)⟩,
 ⟨none, some 36, .call [none, none] none 0 66 [(.t 34), (.t 35)]⟩,
 ⟨none, some 9, .mvS none (.t 36)⟩])
  (.seq (.seq (.reg (.mk [0, 5, 6, 9, 38] [] []) [⟨none, some 37, .mv none (.t 9)⟩,
 ⟨none, some 38, .bin [] .eql (.t 37) (.v (.int .i64 0))⟩])
  (.cond (.t 38) (.seq (.reg (.mk [2, 3, 4] [] []) [⟨none, some 39, .mvS none (.t 6)⟩,
 ⟨none, some 2, .mvS (some 3) (.v .nils)⟩,
 ⟨none, some 3, .mvS none (.v (.int .i64 100))⟩,
 ⟨none, some 4, .mvS none (.t 39)⟩])
  .ret) .skip))
  (.seq (.reg (.mk [0, 5, 6, 8] [] []) [⟨none, some 40, .mv none (.t 6)⟩,
 ⟨none, some 41, .mv none (.t 9)⟩,
 ⟨none, some 42, .bin [] .add (.t 40) (.t 41)⟩,
 ⟨none, some 8, .mvS none (.t 42)⟩])
  (.reg (.mk [0, 5, 6, 7, 8] [] []) [⟨none, some 7, (.mvS none (.v (.int .i64 3)))⟩])))) (.seq (.reg (.mk [0, 5, 6, 7, 8, 43] [] []) [⟨none, (some 44), (.mv none (.t 7))⟩,
 ⟨none, some 45, .bin [] .eql (.t 44) (.v (.int .i64 1))⟩,
 ⟨none, some 46, .mv none (.t 45)⟩,
 ⟨some (46, true), some 47, .mv none (.t 8)⟩,
 ⟨some (46, true), some 48, .mv none (.t 6)⟩,
 ⟨some (46, true), some 49, .bin [] .sub (.t 47) (.t 48)⟩,
 ⟨some (46, true), some 50, .bin [] .gtr (.t 49) (.v (.int .i64 40))⟩,
 ⟨none, some 51, .pick (.t 46) (.t 50) (.v (.bool false))⟩,
 ⟨none, some 52, .mv none (.t 51)⟩,
 ⟨some (52, false), some 53, .mv none (.t 7)⟩,
 ⟨some (52, false), some 54, .bin [] .eql (.t 53) (.v (.int .i64 2))⟩,
 ⟨some (52, false), some 55, .mv none (.t 54)⟩,
 ⟨some (55, true), some 56, .mv none (.t 8)⟩,
 ⟨some (55, true), some 57, .mv none (.t 6)⟩,
 ⟨some (55, true), some 58, .bin [] .sub (.t 56) (.t 57)⟩,
 ⟨some (55, true), some 59, .bin [] .gtr (.t 58) (.v (.int .i64 300))⟩,
 ⟨some (52, false), some 60, .pick (.t 55) (.t 59) (.v (.bool false))⟩,
 ⟨none, some 61, .pick (.t 52) (.v (.bool true)) (.t 60)⟩,
 ⟨none, some 43, .mvS none (.t 61)⟩])
  (.cond (.t 43) (.seq (.reg (.mk [2, 3, 4] [] []) [⟨none, some 62, .mvS none (.t 6)⟩,
 ⟨none, some 2, .mvS (some 3) (.v .nils)⟩,
 ⟨none, some 3, .mvS none (.v (.int .i64 2))⟩,
 ⟨none, some 4, .mvS none (.t 62)⟩])
  .ret) (.seq (.reg (.mk [0, 5, 6, 7, 8, 63] [] []) [⟨none, some 64, .mv none (.t 7)⟩,
 ⟨none, some 65, .bin [] .eql (.t 64) (.v (.int .i64 2))⟩,
 ⟨none, some 66, .mv none (.t 65)⟩,
 ⟨some (66, true), some 67, .mv none (.t 0)⟩,
 ⟨some (66, true), some 68, .mv none (.t 6)⟩,
 ⟨some (66, true), some 69, .ix (.t 67) (.t 68)⟩,
 ⟨some (66, true), some 70, .bin [] .eql (.t 69) (.v (.int .u8 48))⟩,
 ⟨none, some 71, .pick (.t 66) (.t 70) (.v (.bool false))⟩,
 ⟨none, some 72, .mv none (.t 71)⟩,
 ⟨some (72, true), some 73, .mv none (.t 8)⟩,
 ⟨some (72, true), some 74, .mv none (.t 6)⟩,
 ⟨some (72, true), some 75, .bin [] .sub (.t 73) (.t 74)⟩,
 ⟨some (72, true), some 76, .bin [] .gtr (.t 75) (.v (.int .i64 1))⟩,
 ⟨none, some 77, .pick (.t 72) (.t 76) (.v (.bool false))⟩,
 ⟨none, some 63, .mvS none (.t 77)⟩])
  (.cond (.t 63) (.seq (.reg (.mk [2, 3, 4] [] []) [⟨none, some 78, .mvS none (.t 6)⟩,
 ⟨none, some 2, .mvS (some 3) (.v .nils)⟩,
 ⟨none, some 3, .mvS none (.v (.int .i64 10))⟩,
 ⟨none, some 4, .mvS none (.t 78)⟩])
  .ret) (.seq (.reg (.mk [0, 5, 6, 7, 8, 79] [] []) [⟨none, some 80, .mv none (.t 7)⟩,
 ⟨none, some 81, .bin [] .eql (.t 80) (.v (.int .i64 2))⟩,
 ⟨none, some 82, .mv none (.t 81)⟩,
 ⟨some (82, true), some 83, .mv none (.t 8)⟩,
 ⟨some (82, true), some 84, .mv none (.t 0)⟩,
 ⟨some (82, true), some 85, .lenStr (.t 84)⟩,
 ⟨some (82, true), some 86, .bin [] .lss (.t 83) (.t 85)⟩,
 ⟨none, some 87, .pick (.t 82) (.t 86) (.v (.bool false))⟩,
 ⟨none, some 88, .mv none (.t 87)⟩,
 ⟨some (88, true), some 89, .mv none (.t 0)⟩,
 ⟨some (88, true), some 90, .mv none (.t 8)⟩,
 ⟨some (88, true), some 91, .ix (.t 89) (.t 90)⟩,
 ⟨some (88, true), some 92, .call [none] none 0 64 [(.t 91)]⟩,
 ⟨some (88, true), some 93, .bin [] .eql (.t 92) (.v (.int .i64 1))⟩,
 ⟨none, some 94, .pick (.t 88) (.t 93) (.v (.bool false))⟩,
 ⟨none, some 79, .mvS none (.t 94)⟩])
  (.cond (.t 79) (.seq (.reg (.mk [2, 3, 4] [] []) [⟨none, some 95, .mvS none (.t 8)⟩,
 ⟨none, some 2, .mvS (some 3) (.v .nils)⟩,
 ⟨none, some 3, .mvS none (.v (.int .i64 100))⟩,
 ⟨none, some 4, .mvS none (.t 95)⟩])
  .ret) .skip)))))))))
  (.seq (.reg (.mk [0, 5, 8] [] []) [⟨none, some 96, .mvS (some 3) (.t 5)⟩,
 ⟨none, some 97, .mv none (.t 7)⟩,
 ⟨none, some 98, .mv none (.t 0)⟩,
 ⟨none, some 99, .mv none (.t 6)⟩,
 ⟨none, some 100, .mv none (.t 8)⟩,
 ⟨none, some 101, .slc true none false (.t 98) (some (.t 99)) (some (.t 100))⟩,
 ⟨none, some 102, .mv none (.t 6)⟩,
 ⟨none, some 103, .build [(0, 1), (1, 1), (2, 1)] [(.int .i64 0), (.str []), (.int .i64 0)] [0, 1, 2] [(.t 97), (.t 101), (.t 102)]⟩,
 ⟨none, some 104, .buildSl 3 [(.t 103)]⟩,
 ⟨none, some 105, .app 3 32 (.t 96) (.t 104)⟩,
 ⟨none, some 5, .mvS (some 3) (.t 105)⟩])
  (.reg (.mk [0, 5, 6] [] []) [⟨none, some 106, .mv none (.t 8)⟩,
 ⟨none, some 6, .mvS none (.t 106)⟩]))))))
  (.reg (.mk [0, 5, 6] [] []) [⟨none, some 19, .mv none (.t 0)⟩,
 ⟨none, some 20, .mv none (.t 6)⟩,
 ⟨none, some 21, .call [none, none] none 0 63 [(.t 19), (.t 20)]⟩,
 ⟨none, some 6, .mvS none (.t 21)⟩]))))))
  (.seq (.reg (.mk [2, 3, 4] [] []) [⟨none, some 107, .mvS (some 3) (.t 5)⟩,
 ⟨none, some 2, .mvS (some 3) (.t 107)⟩,
 ⟨none, some 3, .mvS none (.v (.int .i64 0))⟩,
 ⟨none, some 4, .mvS none (.v (.int .i64 0))⟩])
  .ret)))))
theorem k43 {B : Heap} {args : List V} {objs : List Ob} {S : Post} (h : acwp (COk Tryz.prog B) c43 (initSt args objs) (EndP (tabT tab) [.tmp 2, .tmp 3, .tmp 4] objs.length (mvOf args objs) [] S)) (hn : args.length ≤ Tryz.f43.ntmps := by exact Nat.le_of_ble_eq_true rfl) : CallS Tryz.prog B (mvOf args objs) 43 args objs S :=
  callSB tabOk mixed Tryz.func43 Tryz.call43 (hints [] [([0], []), ([], []), ([0, 12], []), ([], []), ([2, 3, 4], []), ([], []), ([0, 5], []), ([], []), ([0, 5, 6], []), ([], []), ([0, 5, 6, 18], []), ([0, 5, 6], []), ([0, 5, 6], []), ([], []), ([0, 5, 6, 7], []), ([], []), ([0, 5, 6, 7, 8], []), ([], []), ([0, 5, 6, 7, 8, 31], []), ([], []), ([0, 5, 6, 9], []), ([], []), ([0, 5, 6, 9, 38], []), ([], []), ([2, 3, 4], []), ([], []), ([0, 5, 6, 8], []), ([], []), ([0, 5, 6, 7, 8], []), ([], []), ([0, 5, 6, 7, 8, 43], []), ([], []), ([2, 3, 4], []), ([], []), ([0, 5, 6, 7, 8, 63], []), ([], []), ([2, 3, 4], []), ([], []), ([0, 5, 6, 7, 8, 79], []), ([], []), ([2, 3, 4], []), ([], []), ([0, 5, 8], []), ([], []), ([0, 5, 6], []), ([], []), ([2, 3, 4], []), ([], [])]) ⟨[2, 3, 4], [], [], []⟩ (by kernel_rfl) rfl rfl (by decide) hn h
def c44 : AC :=
  (.seq (.reg (.mk [0, 1, 2] [(.par 0)] []) [⟨none, some 6, .mvS none (.v (.bool false))⟩])
  (.seq (.regD (.mk [6] [(.par 0)] []) [(6, 10), (7, 10), (8, 10), (9, 10), (6, 12), (7, 12), (8, 12), (9, 12), (10, 12), (11, 12), (6, 13), (7, 13), (8, 13), (9, 13), (10, 13), (11, 13), (6, 14), (7, 14), (8, 14), (9, 14), (10, 14), (11, 14), (6, 15), (7, 15), (8, 15), (9, 15), (10, 15), (11, 15), (6, 16), (7, 16), (8, 16), (9, 16), (10, 16), (11, 16), (20, 24), (21, 24), (22, 24), (23, 24), (20, 25), (21, 25), (22, 25), (23, 25), (20, 26), (21, 26), (22, 26), (23, 26), (20, 27), (21, 27), (22, 27), (23, 27), (20, 28), (21, 28), (22, 28), (23, 28), (24, 28), (25, 28), (26, 28), (27, 28), (20, 29), (21, 29), (22, 29), (23, 29), (36, 40), (37, 40), (38, 40), (39, 40), (36, 41), (37, 41), (38, 41), (39, 41), (36, 42), (37, 42), (38, 42), (39, 42), (36, 43), (37, 43), (38, 43), (39, 43), (36, 44), (37, 44), (38, 44), (39, 44), (40, 44), (41, 44), (42, 44), (43, 44), (36, 45), (37, 45), (38, 45), (39, 45), (36, 49), (37, 49), (38, 49), (39, 49), (40, 49), (41, 49), (42, 49), (43, 49), (44, 49), (45, 49), (46, 49), (47, 49), (48, 49)] [⟨none, some 7, .mv none (.t 0)⟩,
 ⟨none, some 8, .nilc (.t 7)⟩,
 ⟨none, some 9, .fa 4 (.t 8)⟩,
 ⟨none, some 10, .load none false (.t 9)⟩,
 ⟨none, some 11, .bin [] .eql (.t 10) (.v (.int .i64 0))⟩,
 ⟨none, some 12, .mv none (.t 11)⟩,
 ⟨some (12, true), some 13, .mv none (.t 0)⟩,
 ⟨some (12, true), some 14, .nilc (.t 13)⟩,
 ⟨some (12, true), some 15, .fa 1 (.t 14)⟩,
 ⟨some (12, true), some 16, .load none false (.t 15)⟩,
 ⟨some (12, true), some 17, .mv none (.t 1)⟩,
 ⟨some (12, true), some 18, .bin [] .add (.t 16) (.t 17)⟩,
 ⟨some (12, true), some 19, .mv none (.t 0)⟩,
 ⟨some (12, true), some 20, .nilc (.t 19)⟩,
 ⟨some (12, true), some 21, .fa 0 (.t 20)⟩,
 ⟨some (12, true), some 22, .load none false (.t 21)⟩,
 ⟨some (12, true), some 23, .lenSl (.t 22)⟩,
 ⟨some (12, true), some 24, .bin [] .lss (.t 18) (.t 23)⟩,
 ⟨none, some 25, .pick (.t 12) (.t 24) (.v (.bool false))⟩,
 ⟨none, some 26, .mv none (.t 25)⟩,
 ⟨some (26, true), some 27, .mv none (.t 0)⟩,
 ⟨some (26, true), some 28, .nilc (.t 27)⟩,
 ⟨some (26, true), some 29, .fa 0 (.t 28)⟩,
 ⟨some (26, true), some 30, .load none false (.t 29)⟩,
 ⟨some (26, true), some 31, .mv none (.t 0)⟩,
 ⟨some (26, true), some 32, .nilc (.t 31)⟩,
 ⟨some (26, true), some 33, .fa 1 (.t 32)⟩,
 ⟨some (26, true), some 34, .load none false (.t 33)⟩,
 ⟨some (26, true), some 35, .mv none (.t 1)⟩,
 ⟨some (26, true), some 36, .bin [] .add (.t 34) (.t 35)⟩,
 ⟨some (26, true), some 37, .ia (some 3) none (.t 30) (.t 36)⟩,
 ⟨some (26, true), some 38, .fa 0 (.t 37)⟩,
 ⟨some (26, true), some 39, .load none false (.t 38)⟩,
 ⟨some (26, true), some 40, .bin [] .neq (.t 39) (.v (.int .i64 2))⟩,
 ⟨none, some 41, .pick (.t 26) (.t 40) (.v (.bool false))⟩,
 ⟨none, some 42, .mv none (.t 41)⟩,
 ⟨some (42, true), some 43, .mv none (.t 0)⟩,
 ⟨some (42, true), some 44, .nilc (.t 43)⟩,
 ⟨some (42, true), some 45, .fa 0 (.t 44)⟩,
 ⟨some (42, true), some 46, .load none false (.t 45)⟩,
 ⟨some (42, true), some 47, .mv none (.t 0)⟩,
 ⟨some (42, true), some 48, .nilc (.t 47)⟩,
 ⟨some (42, true), some 49, .fa 1 (.t 48)⟩,
 ⟨some (42, true), some 50, .load none false (.t 49)⟩,
 ⟨some (42, true), some 51, .mv none (.t 1)⟩,
 ⟨some (42, true), some 52, .bin [] .add (.t 50) (.t 51)⟩,
 ⟨some (42, true), some 53, .ia (some 3) none (.t 46) (.t 52)⟩,
 ⟨some (42, true), some 54, .fa 1 (.t 53)⟩,
 ⟨some (42, true), some 55, .load none false (.t 54)⟩,
 ⟨some (42, true), some 56, .mv none (.t 2)⟩,
 ⟨some (42, true), some 57, .bin [] .eql (.t 55) (.t 56)⟩,
 ⟨none, some 58, .pick (.t 42) (.t 57) (.v (.bool false))⟩,
 ⟨none, some 6, .mvS none (.t 58)⟩])
  .ret))
theorem k44 {B : Heap} {args : List V} {objs : List Ob} {S : Post} (h : acwp (COk Tryz.prog B) c44 (initSt args objs) (EndP (tabT tab) [.tmp 6] objs.length (mvOf args objs) [] S)) (hn : args.length ≤ Tryz.f44.ntmps := by exact Nat.le_of_ble_eq_true rfl) : CallS Tryz.prog B (mvOf args objs) 44 args objs S :=
  callSB tabOk mixed Tryz.func44 Tryz.call44 (hints [] [([0, 1, 2], [.par 0]), ([], [.par 0]), ([6], [.par 0]), ([], [.par 0])]) ⟨[6], [], [], []⟩ (by kernel_rfl) rfl rfl (by decide) hn h
def c47 : AC :=
  (.seq (.reg (.mk [0, 7] [(.par 0)] []) [⟨none, some 4, .mv none (.t 0)⟩,
 ⟨none, some 5, .mv none (.t 1)⟩,
 ⟨none, some 6, .call [none, none] none 0 69 [(.t 4), (.t 5)]⟩,
 ⟨none, some 7, .un .not (.t 6)⟩])
  (.cond (.t 7) (.reg (.mk [] [(.par 0)] []) [⟨none, some 8, .mv none (.t 0)⟩,
 ⟨none, some 9, .call [none, none] none 0 49 [(.t 8), (.v (.int .i64 110))]⟩]) .skip))
theorem k47 {B : Heap} {args : List V} {objs : List Ob} {S : Post} (h : acwp (COk Tryz.prog B) c47 (initSt args objs) (EndP (tabT tab) [] objs.length (mvOf args objs) [] S)) (hn : args.length ≤ Tryz.f47.ntmps := by exact Nat.le_of_ble_eq_true rfl) : CallS Tryz.prog B (mvOf args objs) 47 args objs S :=
  callSB tabOk mixed Tryz.func47 Tryz.call47 (hints [] [([0, 7], [.par 0]), ([], [.par 0]), ([], [.par 0]), ([], [.par 0])]) ⟨[], [], [], []⟩ (by kernel_rfl) rfl rfl (by decide) hn h
def c48 : AC :=
  (.seq (.reg (.mk [0] [(.par 0)] []) [⟨none, some 2, .mvS (some 7) (.v .nils)⟩])
  (.seq (.reg (.mk [0, 3] [(.par 0)] []) [⟨none, some 3, .mvS (some 7) (.v .nils)⟩])
  (.seq (.seq (.reg (.mk [0, 3, 5] [(.par 0)] []) [⟨none, some 4, .mv none (.t 0)⟩,
 ⟨none, some 5, .call [none] none 0 73 [(.t 4)]⟩])
  (.cond (.t 5) (.seq (.reg (.mk [0, 3] [(.par 0)] []) [⟨none, some 6, .mv none (.t 0)⟩,
 ⟨none, some 7, .call [none, none] none 0 47 [(.t 6), (.v (.str [123]))]⟩])
  (.block 0 (.loop (.mk [0, 3] [(.par 0)] []) (.seq (.seq (.reg (.mk [0, 3, 17] [(.par 0)] []) [⟨none, some 8, .mv none (.t 0)⟩,
 ⟨none, some 9, .nilc (.t 8)⟩,
 ⟨none, some 10, .fa 4 (.t 9)⟩,
 ⟨none, some 11, .load none false (.t 10)⟩,
 ⟨none, some 12, .bin [] .eql (.t 11) (.v (.int .i64 0))⟩,
 ⟨none, some 13, .mv none (.t 12)⟩,
 ⟨some (13, true), some 14, .mv none (.t 0)⟩,
 ⟨some (13, true), some 15, .call [none, none] none 0 69 [(.t 14), (.v (.str [125]))]⟩,
 ⟨some (13, true), some 16, .un .not (.t 15)⟩,
 ⟨none, some 17, .pick (.t 13) (.t 16) (.v (.bool false))⟩])
  (.cond (.t 17) .skip (.exit 0)))
  (.block 1 (.reg (.mk [0, 3] [(.par 0)] []) [⟨none, some 18, .mvS (some 7) (.t 3)⟩,
 ⟨none, some 19, .mv none (.t 0)⟩,
 ⟨none, some 20, .call [none] none 0 74 [(.t 19)]⟩,
 ⟨none, some 21, .buildSl 7 [(.t 20)]⟩,
 ⟨none, some 22, .app 7 136 (.t 18) (.t 21)⟩,
 ⟨none, some 3, .mvS (some 7) (.t 22)⟩])))))) .skip))
  (.seq (.reg (.mk [3] [(.par 0)] []) [⟨none, some 23, .mv none (.t 0)⟩,
 ⟨none, some 24, .nilc (.t 23)⟩,
 ⟨none, some 25, .fa 3 (.t 24)⟩,
 ⟨none, some 26, .load none false (.t 25)⟩,
 ⟨none, some 27, .bin [] .sub (.t 26) (.v (.int .i64 1))⟩,
 ⟨none, some 28, .nilc (.t 23)⟩,
 ⟨none, some 29, .fa 3 (.t 28)⟩,
 ⟨none, none, .store 1 none (.t 29) (.t 27)⟩])
  (.seq (.reg (.mk [2] [(.par 0)] []) [⟨none, some 30, .mvS (some 7) (.t 3)⟩,
 ⟨none, some 2, .mvS (some 7) (.t 30)⟩])
  .ret)))))
theorem k48 {B : Heap} {args : List V} {objs : List Ob} {S : Post} (h : acwp (COk Tryz.prog B) c48 (initSt args objs) (EndP (tabT tab) [.tmp 2] objs.length (mvOf args objs) [] S)) (hn : args.length ≤ Tryz.f48.ntmps := by exact Nat.le_of_ble_eq_true rfl) : CallS Tryz.prog B (mvOf args objs) 48 args objs S :=
  callSB tabOk mixed Tryz.func48 Tryz.call48 (hints [] [([0], [.par 0]), ([], [.par 0]), ([0, 3], [.par 0]), ([], [.par 0]), ([0, 3, 5], [.par 0]), ([], [.par 0]), ([0, 3], [.par 0]), ([], [.par 0]), ([0, 3, 17], [.par 0]), ([0, 3], [.par 0]), ([0, 3], [.par 0]), ([], [.par 0]), ([3], [.par 0]), ([], [.par 0]), ([2], [.par 0]), ([], [.par 0])]) ⟨[2], [], [], []⟩ (by kernel_rfl) rfl rfl (by decide) hn h
def c50 : AC :=
  (.seq (.reg (.mk [0] [] []) [⟨none, some 2, .mvS none (.v (.int .i64 0))⟩,
 ⟨none, some 3, .mvS none (.v (.int .i64 0))⟩])
  (.seq (.seq (.reg (.mk [0, 4, 5] [] []) [⟨none, some 21, .mv (some 9) (.t 0)⟩,
 ⟨none, some 22, .call [(some 9)] none 0 75 [(.t 21)]⟩,
 ⟨none, some 20, .mv none (.t 22)⟩,
 ⟨none, some 23, .ext (.t 20) 0⟩,
 ⟨none, some 24, .ext (.t 20) 1⟩,
 ⟨none, some 4, .mvS none (.t 23)⟩,
 ⟨none, some 5, .mvS none (.t 24)⟩])
  (.seq (.reg (.mk [0, 4, 5, 26] [] []) [⟨none, some 25, .mv none (.t 4)⟩,
 ⟨none, some 26, .bin [] .neq (.t 25) (.v (.int .i64 0))⟩])
  (.cond (.t 26) (.seq (.reg (.mk [2, 3] [] []) [⟨none, some 27, .mvS none (.t 4)⟩,
 ⟨none, some 28, .mvS none (.t 5)⟩,
 ⟨none, some 2, .mvS none (.t 27)⟩,
 ⟨none, some 3, .mvS none (.t 28)⟩])
  .ret) .skip)))
  (.seq (.seq (.reg (.mk [0, 6, 7] [] []) [⟨none, some 30, .mv (some 9) (.t 0)⟩,
 ⟨none, some 31, .call [(some 9)] none 0 76 [(.t 30)]⟩,
 ⟨none, some 29, .mv none (.t 31)⟩,
 ⟨none, some 32, .ext (.t 29) 0⟩,
 ⟨none, some 33, .ext (.t 29) 1⟩,
 ⟨none, some 6, .mvS none (.t 32)⟩,
 ⟨none, some 7, .mvS none (.t 33)⟩])
  (.seq (.reg (.mk [0, 6, 7, 35] [] []) [⟨none, some 34, .mv none (.t 6)⟩,
 ⟨none, some 35, .bin [] .neq (.t 34) (.v (.int .i64 0))⟩])
  (.cond (.t 35) (.seq (.reg (.mk [2, 3] [] []) [⟨none, some 36, .mvS none (.t 6)⟩,
 ⟨none, some 37, .mvS none (.t 7)⟩,
 ⟨none, some 2, .mvS none (.t 36)⟩,
 ⟨none, some 3, .mvS none (.t 37)⟩])
  .ret) .skip)))
  (.seq (.seq (.reg (.mk [0, 8] [] []) [⟨none, some 8, .mvS none (.v (.int .i64 0))⟩])
  (.block 0 (.loop (.mk [0, 8] [] []) (.seq (.seq (.reg (.mk [0, 8, 41] [] []) [⟨none, some 38, .mv none (.t 8)⟩,
 ⟨none, some 39, .mv (some 9) (.t 0)⟩,
 ⟨none, some 40, .lenSl (.t 39)⟩,
 ⟨none, some 41, .bin [] .lss (.t 38) (.t 40)⟩])
  (.cond (.t 41) .skip (.exit 0)))
  (.seq (.block 1 (.seq (.seq (.reg (.mk [0, 8, 9, 10] [] []) [⟨none, some 45, .mv (some 9) (.t 0)⟩,
 ⟨none, some 46, .mv (some 9) (.t 0)⟩,
 ⟨none, some 47, .mv none (.t 8)⟩,
 ⟨none, some 48, .ia (some 9) none (.t 46) (.t 47)⟩,
 ⟨none, some 49, .load (some 9) false (.t 48)⟩,
 ⟨none, some 50, .call [(some 9), none] none 0 77 [(.t 45), (.t 49)]⟩,
 ⟨none, some 44, .mv none (.t 50)⟩,
 ⟨none, some 51, .ext (.t 44) 0⟩,
 ⟨none, some 52, .ext (.t 44) 1⟩,
 ⟨none, some 9, .mvS none (.t 51)⟩,
 ⟨none, some 10, .mvS none (.t 52)⟩])
  (.seq (.reg (.mk [0, 8, 9, 10, 54] [] []) [⟨none, some 53, .mv none (.t 9)⟩,
 ⟨none, some 54, .bin [] .neq (.t 53) (.v (.int .i64 0))⟩])
  (.cond (.t 54) (.seq (.reg (.mk [2, 3] [] []) [⟨none, some 55, .mvS none (.t 9)⟩,
 ⟨none, some 56, .mvS none (.t 10)⟩,
 ⟨none, some 2, .mvS none (.t 55)⟩,
 ⟨none, some 3, .mvS none (.t 56)⟩])
  .ret) .skip)))
  (.seq (.reg (.mk [0, 8, 11, 12] [] []) [⟨none, some 58, .mv (some 9) (.t 0)⟩,
 ⟨none, some 59, .mv none (.t 8)⟩,
 ⟨none, some 60, .call [(some 9), none] none 0 78 [(.t 58), (.t 59)]⟩,
 ⟨none, some 57, .mv none (.t 60)⟩,
 ⟨none, some 61, .ext (.t 57) 0⟩,
 ⟨none, some 62, .ext (.t 57) 1⟩,
 ⟨none, some 11, .mvS none (.t 61)⟩,
 ⟨none, some 12, .mvS none (.t 62)⟩])
  (.seq (.reg (.mk [0, 8, 11, 12, 64] [] []) [⟨none, some 63, .mv none (.t 11)⟩,
 ⟨none, some 64, .bin [] .neq (.t 63) (.v (.int .i64 0))⟩])
  (.cond (.t 64) (.seq (.reg (.mk [2, 3] [] []) [⟨none, some 65, .mvS none (.t 11)⟩,
 ⟨none, some 66, .mvS none (.t 12)⟩,
 ⟨none, some 2, .mvS none (.t 65)⟩,
 ⟨none, some 3, .mvS none (.t 66)⟩])
  .ret) .skip)))))
  (.reg (.mk [0, 8] [] []) [⟨none, some 42, .mv none (.t 8)⟩,
 ⟨none, some 43, .bin [] .add (.t 42) (.v (.int .i64 1))⟩,
 ⟨none, some 8, .mvS none (.t 43)⟩]))))))
  (.seq (.seq (.reg (.mk [0, 13] [] []) [⟨none, some 13, .mvS none (.v (.int .i64 0))⟩])
  (.block 2 (.loop (.mk [0, 13] [] []) (.seq (.seq (.reg (.mk [0, 13, 70] [] []) [⟨none, some 67, .mv none (.t 13)⟩,
 ⟨none, some 68, .mv (some 9) (.t 0)⟩,
 ⟨none, some 69, .lenSl (.t 68)⟩,
 ⟨none, some 70, .bin [] .lss (.t 67) (.t 69)⟩])
  (.cond (.t 70) .skip (.exit 2)))
  (.seq (.block 3 (.seq (.reg (.mk [0, 13, 14] [] []) [⟨none, some 73, .mv (some 9) (.t 0)⟩,
 ⟨none, some 74, .mv none (.t 13)⟩,
 ⟨none, some 75, .call [(some 9), none] none 0 79 [(.t 73), (.t 74)]⟩,
 ⟨none, some 14, .mvS (some 1) (.t 75)⟩])
  (.seq (.reg (.mk [0, 13, 14, 15] [] []) [⟨none, some 15, .mvS none (.v (.int .i64 0))⟩])
  (.block 4 (.loop (.mk [0, 13, 14, 15] [] []) (.seq (.seq (.reg (.mk [0, 13, 14, 15, 79] [] []) [⟨none, some 76, .mv none (.t 15)⟩,
 ⟨none, some 77, .mv (some 9) (.t 0)⟩,
 ⟨none, some 78, .lenSl (.t 77)⟩,
 ⟨none, some 79, .bin [] .lss (.t 76) (.t 78)⟩])
  (.cond (.t 79) .skip (.exit 4)))
  (.seq (.block 5 (.seq (.reg (.mk [0, 13, 14, 15, 16] [] []) [⟨none, some 16, .mvS none (.v (.int .i64 0))⟩])
  (.block 6 (.loop (.mk [0, 13, 14, 15, 16] [] []) (.seq (.seq (.reg (.mk [0, 13, 14, 15, 16, 102] [] []) [⟨none, some 82, .mv (some 1) (.t 14)⟩,
 ⟨none, some 83, .mv none (.t 15)⟩,
 ⟨none, some 84, .ia (some 1) none (.t 82) (.t 83)⟩,
 ⟨none, some 85, .load none false (.t 84)⟩,
 ⟨none, some 86, .mv none (.t 85)⟩,
 ⟨some (86, true), some 87, .mv (some 9) (.t 0)⟩,
 ⟨some (86, true), some 88, .mv none (.t 15)⟩,
 ⟨some (86, true), some 89, .ia (some 9) none (.t 87) (.t 88)⟩,
 ⟨some (86, true), some 90, .fa 1 (.t 89)⟩,
 ⟨some (86, true), some 91, .load none false (.t 90)⟩,
 ⟨none, some 92, .pick (.t 86) (.t 91) (.v (.bool false))⟩,
 ⟨none, some 93, .mv none (.t 92)⟩,
 ⟨some (93, true), some 94, .mv none (.t 16)⟩,
 ⟨some (93, true), some 95, .mv (some 9) (.t 0)⟩,
 ⟨some (93, true), some 96, .mv none (.t 15)⟩,
 ⟨some (93, true), some 97, .ia (some 9) none (.t 95) (.t 96)⟩,
 ⟨some (93, true), some 98, .fa 7 (.t 97)⟩,
 ⟨some (93, true), some 99, .load none false (.t 98)⟩,
 ⟨some (93, true), some 100, .lenSl (.t 99)⟩,
 ⟨some (93, true), some 101, .bin [] .lss (.t 94) (.t 100)⟩,
 ⟨none, some 102, .pick (.t 93) (.t 101) (.v (.bool false))⟩])
  (.cond (.t 102) .skip (.exit 6)))
  (.seq (.block 7 (.seq (.reg (.mk [0, 13, 14, 15, 16, 17] [(.loc 17)] []) [⟨none, some 105, .mv (some 9) (.t 0)⟩,
 ⟨none, some 106, .mv none (.t 15)⟩,
 ⟨none, some 107, .ia (some 9) none (.t 105) (.t 106)⟩,
 ⟨none, some 108, .fa 7 (.t 107)⟩,
 ⟨none, some 109, .load none false (.t 108)⟩,
 ⟨none, some 110, .mv none (.t 16)⟩,
 ⟨none, some 111, .ia (some 11) none (.t 109) (.t 110)⟩,
 ⟨none, some 112, .load (some 11) false (.t 111)⟩,
 ⟨none, some 17, .alloc [(.str []), (.own 8 []), (.int .i64 0), (.str []), (.bool false), (.own 6 []), (.own 5 []), (.int .i64 0), (.own 7 []), (.bool false), (.int .i64 0)]⟩,
 ⟨none, none, .store 11 none (.t 17) (.t 112)⟩])
  (.seq (.regD (.mk [0, 13, 14, 15, 16, 17, 18, 19] [(.loc 17)] []) [(0, 1), (0, 2), (1, 2), (0, 3), (0, 4), (0, 5), (0, 6), (1, 6), (2, 6), (3, 6), (4, 6), (5, 6), (0, 7), (1, 7), (2, 7), (3, 7), (4, 7), (0, 8), (1, 8), (2, 8), (3, 8), (4, 8), (5, 8), (6, 8), (7, 8), (0, 9), (1, 9), (2, 9), (3, 9), (4, 9), (6, 9), (0, 10), (1, 10), (2, 10), (3, 10), (4, 10), (5, 10), (13, 14), (14, 15)] [⟨none, some 114, .mv (some 9) (.t 0)⟩,
 ⟨none, some 115, .mv (some 9) (.t 0)⟩,
 ⟨none, some 116, .mv none (.t 13)⟩,
 ⟨none, some 117, .ia (some 9) none (.t 115) (.t 116)⟩,
 ⟨none, some 118, .fa 0 (.t 117)⟩,
 ⟨none, some 119, .load none false (.t 118)⟩,
 ⟨none, some 120, .fa 0 (.t 17)⟩,
 ⟨none, some 121, .load none false (.t 120)⟩,
 ⟨none, some 122, .fa 1 (.t 17)⟩,
 ⟨none, some 123, .load none false (.t 122)⟩,
 ⟨none, some 124, .call [none, (some 8)] none 0 81 [(.t 121), (.t 123)]⟩,
 ⟨none, some 125, .call [(some 9), none, none] none 0 80 [(.t 114), (.t 119), (.t 124)]⟩,
 ⟨none, some 113, .mv none (.t 125)⟩,
 ⟨none, some 126, .ext (.t 113) 0⟩,
 ⟨none, some 127, .ext (.t 113) 1⟩,
 ⟨none, some 18, .mvS none (.t 126)⟩,
 ⟨none, some 19, .mvS none (.t 127)⟩])
  (.seq (.seq (.reg (.mk [0, 13, 14, 15, 16, 17, 18, 19, 129] [(.loc 17)] []) [⟨none, some 128, .mv none (.t 18)⟩,
 ⟨none, some 129, .bin [] .lss (.t 128) (.v (.int .i64 0))⟩])
  (.cond (.t 129) (.seq (.regD (.mk [2, 3] [] []) [(0, 1), (0, 5), (1, 5), (2, 5), (3, 5), (4, 5)] [⟨none, some 130, .mv (some 9) (.t 0)⟩,
 ⟨none, some 131, .mv none (.t 13)⟩,
 ⟨none, some 132, .ia (some 9) none (.t 130) (.t 131)⟩,
 ⟨none, some 133, .fa 8 (.t 132)⟩,
 ⟨none, some 134, .load none true (.t 133)⟩,
 ⟨none, some 2, .mvS none (.v (.int .i64 125))⟩,
 ⟨none, some 3, .mvS none (.t 134)⟩])
  .ret) .skip))
  (.seq (.regD (.mk [0, 13, 14, 15, 16, 148] [] []) [(0, 1), (0, 5), (1, 5), (2, 5), (3, 5), (4, 5), (0, 10), (1, 10), (2, 10), (3, 10), (4, 10), (5, 10), (6, 10), (7, 10), (8, 10), (9, 10), (0, 11), (1, 11), (2, 11), (3, 11), (5, 11), (6, 11), (7, 11), (9, 11)] [⟨none, some 135, .mv (some 9) (.t 0)⟩,
 ⟨none, some 136, .mv none (.t 18)⟩,
 ⟨none, some 137, .ia (some 9) none (.t 135) (.t 136)⟩,
 ⟨none, some 138, .fa 7 (.t 137)⟩,
 ⟨none, some 139, .load none false (.t 138)⟩,
 ⟨none, some 140, .mv none (.t 19)⟩,
 ⟨none, some 141, .ia (some 11) none (.t 139) (.t 140)⟩,
 ⟨none, some 142, .fa 2 (.t 141)⟩,
 ⟨none, some 143, .load (some 6) false (.t 142)⟩,
 ⟨none, some 144, .call [none] none 0 82 [(.t 143)]⟩,
 ⟨none, some 145, .fa 2 (.t 17)⟩,
 ⟨none, some 146, .load (some 6) false (.t 145)⟩,
 ⟨none, some 147, .call [none] none 0 82 [(.t 146)]⟩,
 ⟨none, some 148, .bin [] .neq (.t 144) (.t 147)⟩])
  (.cond (.t 148) (.seq (.regD (.mk [2, 3] [] []) [(0, 1), (0, 5), (1, 5), (2, 5), (3, 5), (4, 5)] [⟨none, some 149, .mv (some 9) (.t 0)⟩,
 ⟨none, some 150, .mv none (.t 13)⟩,
 ⟨none, some 151, .ia (some 9) none (.t 149) (.t 150)⟩,
 ⟨none, some 152, .fa 8 (.t 151)⟩,
 ⟨none, some 153, .load none true (.t 152)⟩,
 ⟨none, some 2, .mvS none (.v (.int .i64 124))⟩,
 ⟨none, some 3, .mvS none (.t 153)⟩])
  .ret) .skip))))))
  (.reg (.mk [0, 13, 14, 15, 16] [] []) [⟨none, some 103, .mv none (.t 16)⟩,
 ⟨none, some 104, .bin [] .add (.t 103) (.v (.int .i64 1))⟩,
 ⟨none, some 16, .mvS none (.t 104)⟩])))))))
  (.reg (.mk [0, 13, 14, 15] [] []) [⟨none, some 80, .mv none (.t 15)⟩,
 ⟨none, some 81, .bin [] .add (.t 80) (.v (.int .i64 1))⟩,
 ⟨none, some 15, .mvS none (.t 81)⟩]))))))))
  (.reg (.mk [0, 13] [] []) [⟨none, some 71, .mv none (.t 13)⟩,
 ⟨none, some 72, .bin [] .add (.t 71) (.v (.int .i64 1))⟩,
 ⟨none, some 13, .mvS none (.t 72)⟩]))))))
  (.seq (.reg (.mk [2, 3] [] []) [⟨none, some 2, .mvS none (.v (.int .i64 0))⟩,
 ⟨none, some 3, .mvS none (.v (.int .i64 0))⟩])
  .ret))))))
theorem k50 {B : Heap} {args : List V} {objs : List Ob} {S : Post} (h : acwp (COk Tryz.prog B) c50 (initSt args objs) (EndP (tabT tab) [.tmp 2, .tmp 3] objs.length (mvOf args objs) [] S)) (hn : args.length ≤ Tryz.f50.ntmps := by exact Nat.le_of_ble_eq_true rfl) : CallS Tryz.prog B (mvOf args objs) 50 args objs S :=
  callSB tabOk mixed Tryz.func50 Tryz.call50 (hints [] [([0], []), ([], []), ([0, 4, 5], []), ([], []), ([0, 4, 5, 26], []), ([], []), ([2, 3], []), ([], []), ([0, 6, 7], []), ([], []), ([0, 6, 7, 35], []), ([], []), ([2, 3], []), ([], []), ([0, 8], []), ([], []), ([0, 8, 41], []), ([0, 8], []), ([0, 8], []), ([], []), ([0, 8, 9, 10], []), ([], []), ([0, 8, 9, 10, 54], []), ([], []), ([2, 3], []), ([], []), ([0, 8, 11, 12], []), ([], []), ([0, 8, 11, 12, 64], []), ([], []), ([2, 3], []), ([], []), ([0, 13], []), ([], []), ([0, 13, 70], []), ([0, 13], []), ([0, 13], []), ([], []), ([0, 13, 14], []), ([], []), ([0, 13, 14, 15], []), ([], []), ([0, 13, 14, 15, 79], []), ([0, 13, 14, 15], []), ([0, 13, 14, 15], []), ([], []), ([0, 13, 14, 15, 16], []), ([], []), ([0, 13, 14, 15, 16, 102], []), ([0, 13, 14, 15, 16], []), ([0, 13, 14, 15, 16], []), ([], []), ([0, 13, 14, 15, 16, 17], [.loc 17]), ([], []), ([0, 13, 14, 15, 16, 17, 18, 19], [.loc 17]), ([], []), ([0, 13, 14, 15, 16, 17, 18, 19, 129], [.loc 17]), ([], []), ([2, 3], []), ([], []), ([0, 13, 14, 15, 16, 148], []), ([], []), ([2, 3], []), ([], []), ([2, 3], []), ([], [])]) ⟨[2, 3], [], [], []⟩ (by kernel_rfl) rfl rfl (by decide) hn h
def c52 : AC :=
  (.seq (.reg (.mk [1, 2] [(.par 0), (.loc 2)] []) [⟨none, some 2, .box 6 [(.own 9 []), (.str []), (.own 8 []), (.bool false), (.own 6 []), .nilp] (.t 0)⟩,
 ⟨none, some 4, .mvS (some 7) (.v .nils)⟩])
  (.seq (.reg (.mk [1, 2, 5] [(.par 0), (.loc 2)] []) [⟨none, some 5, .mvS (some 7) (.v .nils)⟩])
  (.seq (.seq (.reg (.mk [1, 2, 5, 6] [(.par 0), (.loc 2)] []) [⟨none, some 6, .mvS none (.v (.int .i64 0))⟩])
  (.block 0 (.loop (.mk [1, 2, 5, 6] [(.par 0), (.loc 2)] []) (.seq (.seq (.reg (.mk [1, 2, 5, 6, 20] [(.par 0), (.loc 2)] []) [⟨none, some 9, .mv none (.t 6)⟩,
 ⟨none, some 10, .mv (some 7) (.t 1)⟩,
 ⟨none, some 11, .lenSl (.t 10)⟩,
 ⟨none, some 12, .bin [] .lss (.t 9) (.t 11)⟩,
 ⟨none, some 13, .mv none (.t 12)⟩,
 ⟨some (13, true), some 14, .fa 5 (.t 2)⟩,
 ⟨some (13, true), some 15, .load none false (.t 14)⟩,
 ⟨some (13, true), some 16, .nilc (.t 15)⟩,
 ⟨some (13, true), some 17, .fa 0 (.t 16)⟩,
 ⟨some (13, true), some 18, .load none false (.t 17)⟩,
 ⟨some (13, true), some 19, .bin [] .eql (.t 18) (.v (.int .i64 0))⟩,
 ⟨none, some 20, .pick (.t 13) (.t 19) (.v (.bool false))⟩])
  (.cond (.t 20) .skip (.exit 0)))
  (.seq (.block 1 (.seq (.regD (.mk [1, 2, 5, 6, 7, 8] [(.par 0), (.loc 2), (.loc 7), (.loc 8)] []) [(0, 1), (0, 2), (1, 2), (0, 3), (7, 8), (0, 9), (1, 9), (2, 9), (3, 9), (4, 9), (5, 9), (6, 9), (7, 9), (8, 9), (0, 10), (1, 10), (2, 10), (3, 10), (4, 10), (5, 10), (6, 10), (7, 10), (8, 10), (9, 10), (8, 11)] [⟨none, some 24, .load (some 6) false (.t 2)⟩,
 ⟨none, some 25, .mv (some 7) (.t 1)⟩,
 ⟨none, some 26, .mv none (.t 6)⟩,
 ⟨none, some 27, .ia (some 7) none (.t 25) (.t 26)⟩,
 ⟨none, some 28, .load (some 7) false (.t 27)⟩,
 ⟨none, some 29, .call [none, none] none 0 89 [(.t 24), (.t 28)]⟩,
 ⟨none, some 23, .mv none (.t 29)⟩,
 ⟨none, some 30, .ext (.t 23) 0⟩,
 ⟨none, some 31, .ext (.t 23) 1⟩,
 ⟨none, some 7, .alloc [(.str []), (.str []), (.own 6 []), (.own 5 []), (.own 7 []), (.own 7 []), (.int .i64 0)]⟩,
 ⟨none, some 8, .alloc [(.own 9 []), (.str []), (.own 8 []), (.bool false), (.own 6 []), .nilp]⟩,
 ⟨none, none, .store 7 none (.t 7) (.t 30)⟩,
 ⟨none, none, .store 6 none (.t 8) (.t 31)⟩])
  (.seq (.reg (.mk [1, 2, 5, 6, 8] [(.par 0), (.loc 2), (.loc 8)] []) [⟨none, some 32, .mvS (some 7) (.t 5)⟩,
 ⟨none, some 33, .load (some 7) false (.t 7)⟩,
 ⟨none, some 34, .buildSl 7 [(.t 33)]⟩,
 ⟨none, some 35, .app 7 136 (.t 32) (.t 34)⟩,
 ⟨none, some 5, .mvS (some 7) (.t 35)⟩])
  (.reg (.mk [1, 2, 5, 6] [(.par 0), (.loc 2)] []) [⟨none, some 36, .load (some 6) false (.t 8)⟩,
 ⟨none, none, .store 6 none (.t 2) (.t 36)⟩]))))
  (.reg (.mk [1, 2, 5, 6] [(.par 0), (.loc 2)] []) [⟨none, some 21, .mv none (.t 6)⟩,
 ⟨none, some 22, .bin [] .add (.t 21) (.v (.int .i64 1))⟩,
 ⟨none, some 6, .mvS none (.t 22)⟩]))))))
  (.seq (.reg (.mk [4] [(.par 0)] []) [⟨none, some 37, .mvS (some 7) (.t 5)⟩,
 ⟨none, some 4, .mvS (some 7) (.t 37)⟩])
  .ret))))
theorem k52 {B : Heap} {args : List V} {objs : List Ob} {S : Post} (h : acwp (COk Tryz.prog B) c52 (initSt args objs) (EndP (tabT tab) [.tmp 4] objs.length (mvOf args objs) [] S)) (hn : args.length ≤ Tryz.f52.ntmps := by exact Nat.le_of_ble_eq_true rfl) : CallS Tryz.prog B (mvOf args objs) 52 args objs S :=
  callSB tabOk mixed Tryz.func52 Tryz.call52 (hints [] [([1, 2], [.par 0, .loc 2]), ([], [.par 0]), ([1, 2, 5], [.par 0, .loc 2]), ([], [.par 0]), ([1, 2, 5, 6], [.par 0, .loc 2]), ([], [.par 0]), ([1, 2, 5, 6, 20], [.par 0, .loc 2]), ([1, 2, 5, 6], [.par 0, .loc 2]), ([1, 2, 5, 6], [.par 0, .loc 2]), ([], [.par 0]), ([1, 2, 5, 6, 7, 8], [.par 0, .loc 2, .loc 7, .loc 8]), ([], [.par 0]), ([1, 2, 5, 6, 8], [.par 0, .loc 2, .loc 8]), ([], [.par 0]), ([1, 2, 5, 6], [.par 0, .loc 2]), ([], [.par 0]), ([4], [.par 0]), ([], [.par 0])]) ⟨[4], [], [], []⟩ (by kernel_rfl) rfl rfl (by decide) hn h
def c54 : AC :=
  (.seq (.reg (.mk [0, 2, 4, 6] [(.par 0), (.par 1), (.par 2), (.loc 4), (.loc 6)] []) [⟨none, some 4, .box 7 [(.str []), (.str []), (.own 6 []), (.own 5 []), (.own 7 []), (.own 7 []), (.int .i64 0)] (.t 1)⟩,
 ⟨none, some 6, .alloc [(.str []), (.str []), (.own 6 []), (.own 5 []), (.own 8 []), (.own 8 []), (.own 4 []), (.int .i64 0)]⟩,
 ⟨none, some 7, .mvS none (.v (.bool false))⟩])
  (.seq (.reg (.mk [0, 2, 4, 6, 8] [(.par 0), (.par 1), (.par 2), (.loc 4), (.loc 6), (.loc 8)] []) [⟨none, some 9, .fa 0 (.t 4)⟩,
 ⟨none, some 10, .load none false (.t 9)⟩,
 ⟨none, some 11, .fa 1 (.t 4)⟩,
 ⟨none, some 12, .load none false (.t 11)⟩,
 ⟨none, some 13, .fa 2 (.t 4)⟩,
 ⟨none, some 14, .load none false (.t 13)⟩,
 ⟨none, some 15, .fa 6 (.t 4)⟩,
 ⟨none, some 16, .load none false (.t 15)⟩,
 ⟨none, some 17, .build [(0, 1), (1, 1), (2, 1), (3, 1), (4, 1), (5, 1), (6, 1), (7, 1)] [(.str []), (.str []), .nils, .nils, .nils, .nils, .nils, (.int .i64 0)] [0, 1, 2, 7] [(.t 10), (.t 12), (.t 14), (.t 16)]⟩,
 ⟨none, some 8, .alloc [(.str []), (.str []), (.own 6 []), (.own 5 []), (.own 8 []), (.own 8 []), (.own 4 []), (.int .i64 0)]⟩,
 ⟨none, none, .store 8 none (.t 8) (.t 17)⟩])
  (.seq (.seq (.reg (.mk [0, 2, 4, 6, 8, 19] [(.par 0), (.par 1), (.par 2), (.loc 4), (.loc 6), (.loc 8)] []) [⟨none, some 18, .fa 0 (.t 4)⟩,
 ⟨none, some 19, .load none false (.t 18)⟩])
  (.block 0 (.seq (.reg (.mk [0, 2, 4, 6, 8, 19, 20] [(.par 0), (.par 1), (.par 2), (.loc 4), (.loc 6), (.loc 8)] []) [⟨none, some 21, .bin [] .eql (.t 19) (.v (.str [105, 102]))⟩,
 ⟨none, some 20, .mvS none (.t 21)⟩])
  (.cond (.t 20) (.seq (.reg (.mk [6, 7] [(.par 0), (.par 1), (.par 2), (.loc 6)] []) [⟨none, some 22, .mv none (.t 0)⟩,
 ⟨none, some 23, .load (some 7) false (.t 4)⟩,
 ⟨none, some 24, .load (some 8) false (.t 8)⟩,
 ⟨none, some 25, .mv none (.t 2)⟩,
 ⟨none, some 26, .call [none, none, none, none] none 0 91 [(.t 22), (.t 23), (.t 24), (.t 25)]⟩,
 ⟨none, some 27, .ext (.t 26) 0⟩,
 ⟨none, some 28, .ext (.t 26) 1⟩,
 ⟨none, none, .store 8 none (.t 6) (.t 27)⟩,
 ⟨none, some 7, .mvS none (.t 28)⟩])
  .ret) (.seq (.reg (.mk [0, 2, 4, 6, 8, 29] [(.par 0), (.par 1), (.par 2), (.loc 4), (.loc 6), (.loc 8)] []) [⟨none, some 30, .bin [] .eql (.t 19) (.v (.str [119, 104, 105, 108, 101]))⟩,
 ⟨none, some 29, .mvS none (.t 30)⟩])
  (.cond (.t 29) (.seq (.reg (.mk [6, 7] [(.par 0), (.par 1), (.par 2), (.loc 6)] []) [⟨none, some 31, .mv none (.t 0)⟩,
 ⟨none, some 32, .load (some 7) false (.t 4)⟩,
 ⟨none, some 33, .load (some 8) false (.t 8)⟩,
 ⟨none, some 34, .mv none (.t 2)⟩,
 ⟨none, some 35, .call [none, none, none, none] none 0 92 [(.t 31), (.t 32), (.t 33), (.t 34)]⟩,
 ⟨none, none, .store 8 none (.t 6) (.t 35)⟩,
 ⟨none, some 7, .mvS none (.v (.bool true))⟩])
  .ret) .skip))))))
  (.seq (.reg (.mk [0, 2, 4, 6, 8] [(.par 0), (.par 1), (.par 2), (.loc 4), (.loc 6), (.loc 8)] []) [⟨none, some 36, .fa 3 (.t 4)⟩,
 ⟨none, some 37, .load none false (.t 36)⟩,
 ⟨none, some 38, .mv none (.t 2)⟩,
 ⟨none, some 39, .call [(some 5), none] none 0 93 [(.t 37), (.t 38)]⟩,
 ⟨none, some 40, .fa 3 (.t 8)⟩,
 ⟨none, none, .store 1 (some 5) (.t 40) (.t 39)⟩])
  (.seq (.seq (.reg (.mk [0, 2, 4, 6, 8, 48] [(.par 0), (.par 1), (.par 2), (.loc 4), (.loc 6), (.loc 8)] []) [⟨none, some 41, .fa 0 (.t 4)⟩,
 ⟨none, some 42, .load none false (.t 41)⟩,
 ⟨none, some 43, .bin [] .eql (.t 42) (.v (.str [108, 101, 116]))⟩,
 ⟨none, some 44, .mv none (.t 43)⟩,
 ⟨some (44, false), some 45, .fa 0 (.t 4)⟩,
 ⟨some (44, false), some 46, .load none false (.t 45)⟩,
 ⟨some (44, false), some 47, .bin [] .eql (.t 46) (.v (.str [115, 101, 116]))⟩,
 ⟨none, some 48, .pick (.t 44) (.v (.bool true)) (.t 47)⟩])
  (.cond (.t 48) (.seq (.reg (.mk [2, 4, 6, 8] [(.par 0), (.par 1), (.par 2), (.loc 4), (.loc 6), (.loc 8)] []) [⟨none, some 49, .mv none (.t 0)⟩,
 ⟨none, some 50, .fa 1 (.t 4)⟩,
 ⟨none, some 51, .load none false (.t 50)⟩,
 ⟨none, some 52, .call [none, none] none 0 28 [(.t 49), (.t 51)]⟩,
 ⟨none, some 53, .fa 1 (.t 8)⟩,
 ⟨none, none, .store 1 none (.t 53) (.t 52)⟩])
  (.reg (.mk [4, 6, 8] [(.par 0), (.par 1), (.par 2), (.loc 4), (.loc 6), (.loc 8)] []) [⟨none, some 54, .mv none (.t 2)⟩,
 ⟨none, some 55, .fa 1 (.t 4)⟩,
 ⟨none, some 56, .load none false (.t 55)⟩,
 ⟨none, some 57, .fa 1 (.t 8)⟩,
 ⟨none, some 58, .load none false (.t 57)⟩,
 ⟨none, some 59, .build [(0, 1)] [(.str [])] [0] [(.t 58)]⟩,
 ⟨none, none, .mput 4 (.t 54) (.t 56) (.t 59)⟩])) .skip))
  (.seq (.regD (.mk [6, 7] [(.par 0), (.par 1), (.par 2), (.loc 6)] []) [(0, 1), (0, 3), (1, 4), (2, 4), (3, 4)] [⟨none, some 60, .load (some 8) false (.t 8)⟩,
 ⟨none, some 61, .fa 0 (.t 4)⟩,
 ⟨none, some 62, .load none false (.t 61)⟩,
 ⟨none, some 63, .bin [] .neq (.t 62) (.v (.str [114, 101, 116, 117, 114, 110]))⟩,
 ⟨none, none, .store 8 none (.t 6) (.t 60)⟩,
 ⟨none, some 7, .mvS none (.t 63)⟩])
  .ret))))))
theorem k54 {B : Heap} {args : List V} {objs : List Ob} {S : Post} (h : acwp (COk Tryz.prog B) c54 (initSt args objs) (EndP (tabT tab) [.cell 6 59, .tmp 7] objs.length (mvOf args objs) [] S)) (hn : args.length ≤ Tryz.f54.ntmps := by exact Nat.le_of_ble_eq_true rfl) : CallS Tryz.prog B (mvOf args objs) 54 args objs S :=
  callSB tabOk mixed Tryz.func54 Tryz.call54 (hints [] [([0, 2, 4, 6], [.par 0, .par 1, .par 2, .loc 4, .loc 6]), ([], [.par 0, .par 1, .par 2]), ([0, 2, 4, 6, 8], [.par 0, .par 1, .par 2, .loc 4, .loc 6, .loc 8]), ([], [.par 0, .par 1, .par 2]), ([0, 2, 4, 6, 8, 19], [.par 0, .par 1, .par 2, .loc 4, .loc 6, .loc 8]), ([], [.par 0, .par 1, .par 2]), ([0, 2, 4, 6, 8, 19, 20], [.par 0, .par 1, .par 2, .loc 4, .loc 6, .loc 8]), ([], [.par 0, .par 1, .par 2]), ([6, 7], [.par 0, .par 1, .par 2, .loc 6]), ([], [.par 0, .par 1, .par 2]), ([0, 2, 4, 6, 8, 29], [.par 0, .par 1, .par 2, .loc 4, .loc 6, .loc 8]), ([], [.par 0, .par 1, .par 2]), ([6, 7], [.par 0, .par 1, .par 2, .loc 6]), ([], [.par 0, .par 1, .par 2]), ([0, 2, 4, 6, 8], [.par 0, .par 1, .par 2, .loc 4, .loc 6, .loc 8]), ([], [.par 0, .par 1, .par 2]), ([0, 2, 4, 6, 8, 48], [.par 0, .par 1, .par 2, .loc 4, .loc 6, .loc 8]), ([], [.par 0, .par 1, .par 2]), ([2, 4, 6, 8], [.par 0, .par 1, .par 2, .loc 4, .loc 6, .loc 8]), ([], [.par 0, .par 1, .par 2]), ([4, 6, 8], [.par 0, .par 1, .par 2, .loc 4, .loc 6, .loc 8]), ([], [.par 0, .par 1, .par 2]), ([6, 7], [.par 0, .par 1, .par 2, .loc 6]), ([], [.par 0, .par 1, .par 2])]) ⟨[6, 7], [], [], []⟩ (by kernel_rfl) rfl rfl (by decide) hn h
def c63 : AC :=
  (.seq (.reg (.mk [0, 1] [] []) [⟨none, some 4, .mvS none (.v (.int .i64 0))⟩])
  (.seq (.block 0 (.loop (.mk [0, 1] [] []) (.seq (.seq (.reg (.mk [0, 1, 8] [] []) [⟨none, some 5, .mv none (.t 1)⟩,
 ⟨none, some 6, .mv none (.t 0)⟩,
 ⟨none, some 7, .lenStr (.t 6)⟩,
 ⟨none, some 8, .bin [] .lss (.t 5) (.t 7)⟩])
  (.cond (.t 8) .skip (.exit 0)))
  (.block 1 (.seq (.seq (.reg (.mk [0, 1, 13] [] []) [⟨none, some 9, .mv none (.t 0)⟩,
 ⟨none, some 10, .mv none (.t 1)⟩,
 ⟨none, some 11, .ix (.t 9) (.t 10)⟩,
 ⟨none, some 12, .call [none] none 0 64 [(.t 11)]⟩,
 ⟨none, some 13, .bin [] .eql (.t 12) (.v (.int .i64 3))⟩])
  (.cond (.t 13) (.seq (.reg (.mk [0, 1] [] []) [⟨none, some 14, .mv none (.t 1)⟩,
 ⟨none, some 15, .bin [] .add (.t 14) (.v (.int .i64 1))⟩,
 ⟨none, some 1, .mvS none (.t 15)⟩])
  (.exit 1)) .skip))
  (.seq (.seq (.reg (.mk [0, 1, 28] [] []) [⟨none, some 16, .mv none (.t 1)⟩,
 ⟨none, some 17, .bin [] .add (.t 16) (.v (.int .i64 2))⟩,
 ⟨none, some 18, .mv none (.t 0)⟩,
 ⟨none, some 19, .lenStr (.t 18)⟩,
 ⟨none, some 20, .bin [] .gtr (.t 17) (.t 19)⟩,
 ⟨none, some 21, .mv none (.t 20)⟩,
 ⟨some (21, false), some 22, .mv none (.t 0)⟩,
 ⟨some (21, false), some 23, .mv none (.t 1)⟩,
 ⟨some (21, false), some 24, .mv none (.t 1)⟩,
 ⟨some (21, false), some 25, .bin [] .add (.t 24) (.v (.int .i64 2))⟩,
 ⟨some (21, false), some 26, .slc true none false (.t 22) (some (.t 23)) (some (.t 25))⟩,
 ⟨some (21, false), some 27, .bin [] .neq (.t 26) (.v (.str [47, 47]))⟩,
 ⟨none, some 28, .pick (.t 21) (.v (.bool true)) (.t 27)⟩])
  (.cond (.t 28) (.seq (.reg (.mk [4] [] []) [⟨none, some 29, .mvS none (.t 1)⟩,
 ⟨none, some 4, .mvS none (.t 29)⟩])
  .ret) .skip))
  (.block 2 (.loop (.mk [0, 1] [] []) (.seq (.seq (.reg (.mk [0, 1, 39] [] []) [⟨none, some 30, .mv none (.t 1)⟩,
 ⟨none, some 31, .mv none (.t 0)⟩,
 ⟨none, some 32, .lenStr (.t 31)⟩,
 ⟨none, some 33, .bin [] .lss (.t 30) (.t 32)⟩,
 ⟨none, some 34, .mv none (.t 33)⟩,
 ⟨some (34, true), some 35, .mv none (.t 0)⟩,
 ⟨some (34, true), some 36, .mv none (.t 1)⟩,
 ⟨some (34, true), some 37, .ix (.t 35) (.t 36)⟩,
 ⟨some (34, true), some 38, .bin [] .neq (.t 37) (.v (.int .u8 10))⟩,
 ⟨none, some 39, .pick (.t 34) (.t 38) (.v (.bool false))⟩])
  (.cond (.t 39) .skip (.exit 2)))
  (.block 3 (.reg (.mk [0, 1] [] []) [⟨none, some 40, .mv none (.t 1)⟩,
 ⟨none, some 41, .bin [] .add (.t 40) (.v (.int .i64 1))⟩,
 ⟨none, some 1, .mvS none (.t 41)⟩])))))))))))
  (.seq (.reg (.mk [4] [] []) [⟨none, some 42, .mvS none (.t 1)⟩,
 ⟨none, some 4, .mvS none (.t 42)⟩])
  .ret)))
theorem k63 {B : Heap} {args : List V} {objs : List Ob} {S : Post} (h : acwp (COk Tryz.prog B) c63 (initSt args objs) (EndP (tabT tab) [.tmp 4] objs.length (mvOf args objs) [] S)) (hn : args.length ≤ Tryz.f63.ntmps := by exact Nat.le_of_ble_eq_true rfl) : CallS Tryz.prog B (mvOf args objs) 63 args objs S :=
  callSB tabOk mixed Tryz.func63 Tryz.call63 (hints [] [([0, 1], []), ([], []), ([0, 1, 8], []), ([0, 1], []), ([0, 1, 13], []), ([], []), ([0, 1], []), ([], []), ([0, 1, 28], []), ([], []), ([4], []), ([], []), ([0, 1, 39], []), ([0, 1], []), ([0, 1], []), ([], []), ([4], []), ([], [])]) ⟨[4], [], [], []⟩ (by kernel_rfl) rfl rfl (by decide) hn h
def c64 : AC :=
  (.seq (.reg (.mk [0] [] []) [⟨none, some 2, .mvS none (.v (.int .i64 0))⟩])
  (.seq (.block 0 (.seq (.reg (.mk [0, 3] [] []) [⟨none, some 4, .mv none (.t 0)⟩,
 ⟨none, some 5, .bin [] .geq (.t 4) (.v (.int .u8 97))⟩,
 ⟨none, some 6, .mv none (.t 5)⟩,
 ⟨some (6, true), some 7, .mv none (.t 0)⟩,
 ⟨some (6, true), some 8, .bin [] .leq (.t 7) (.v (.int .u8 122))⟩,
 ⟨none, some 9, .pick (.t 6) (.t 8) (.v (.bool false))⟩,
 ⟨none, some 10, .mv none (.t 9)⟩,
 ⟨some (10, false), some 11, .mv none (.t 0)⟩,
 ⟨some (10, false), some 12, .bin [] .geq (.t 11) (.v (.int .u8 65))⟩,
 ⟨some (10, false), some 13, .mv none (.t 12)⟩,
 ⟨some (13, true), some 14, .mv none (.t 0)⟩,
 ⟨some (13, true), some 15, .bin [] .leq (.t 14) (.v (.int .u8 90))⟩,
 ⟨some (10, false), some 16, .pick (.t 13) (.t 15) (.v (.bool false))⟩,
 ⟨none, some 17, .pick (.t 10) (.v (.bool true)) (.t 16)⟩,
 ⟨none, some 18, .mv none (.t 17)⟩,
 ⟨some (18, false), some 19, .mv none (.t 0)⟩,
 ⟨some (18, false), some 20, .bin [] .eql (.t 19) (.v (.int .u8 95))⟩,
 ⟨none, some 21, .pick (.t 18) (.v (.bool true)) (.t 20)⟩,
 ⟨none, some 3, .mvS none (.t 21)⟩])
  (.cond (.t 3) (.seq (.reg (.mk [2] [] []) [⟨none, some 2, .mvS none (.v (.int .i64 1))⟩])
  .ret) (.seq (.reg (.mk [0, 22] [] []) [⟨none, some 23, .mv none (.t 0)⟩,
 ⟨none, some 24, .bin [] .geq (.t 23) (.v (.int .u8 48))⟩,
 ⟨none, some 25, .mv none (.t 24)⟩,
 ⟨some (25, true), some 26, .mv none (.t 0)⟩,
 ⟨some (25, true), some 27, .bin [] .leq (.t 26) (.v (.int .u8 57))⟩,
 ⟨none, some 28, .pick (.t 25) (.t 27) (.v (.bool false))⟩,
 ⟨none, some 22, .mvS none (.t 28)⟩])
  (.cond (.t 22) (.seq (.reg (.mk [2] [] []) [⟨none, some 2, .mvS none (.v (.int .i64 2))⟩])
  .ret) (.seq (.reg (.mk [29] [] []) [⟨none, some 30, .mv none (.t 0)⟩,
 ⟨none, some 31, .bin [] .eql (.t 30) (.v (.int .u8 32))⟩,
 ⟨none, some 32, .mv none (.t 31)⟩,
 ⟨some (32, false), some 33, .mv none (.t 0)⟩,
 ⟨some (32, false), some 34, .bin [] .eql (.t 33) (.v (.int .u8 9))⟩,
 ⟨none, some 35, .pick (.t 32) (.v (.bool true)) (.t 34)⟩,
 ⟨none, some 36, .mv none (.t 35)⟩,
 ⟨some (36, false), some 37, .mv none (.t 0)⟩,
 ⟨some (36, false), some 38, .bin [] .eql (.t 37) (.v (.int .u8 10))⟩,
 ⟨none, some 39, .pick (.t 36) (.v (.bool true)) (.t 38)⟩,
 ⟨none, some 40, .mv none (.t 39)⟩,
 ⟨some (40, false), some 41, .mv none (.t 0)⟩,
 ⟨some (40, false), some 42, .bin [] .eql (.t 41) (.v (.int .u8 13))⟩,
 ⟨none, some 43, .pick (.t 40) (.v (.bool true)) (.t 42)⟩,
 ⟨none, some 29, .mvS none (.t 43)⟩])
  (.cond (.t 29) (.seq (.reg (.mk [2] [] []) [⟨none, some 2, .mvS none (.v (.int .i64 3))⟩])
  .ret) .skip)))))))
  (.seq (.reg (.mk [2] [] []) [⟨none, some 2, .mvS none (.v (.int .i64 0))⟩])
  .ret)))
theorem k64 {B : Heap} {args : List V} {objs : List Ob} {S : Post} (h : acwp (COk Tryz.prog B) c64 (initSt args objs) (EndP (tabT tab) [.tmp 2] objs.length (mvOf args objs) [] S)) (hn : args.length ≤ Tryz.f64.ntmps := by exact Nat.le_of_ble_eq_true rfl) : CallS Tryz.prog B (mvOf args objs) 64 args objs S :=
  callSB tabOk mixed Tryz.func64 Tryz.call64 (hints [] [([0], []), ([], []), ([0, 3], []), ([], []), ([2], []), ([], []), ([0, 22], []), ([], []), ([2], []), ([], []), ([29], []), ([], []), ([2], []), ([], []), ([2], []), ([], [])]) ⟨[2], [], [], []⟩ (by kernel_rfl) rfl rfl (by decide) hn h
def c65 : AC :=
  (.seq (.reg (.mk [0, 1, 2] [] []) [⟨none, some 6, .mvS none (.v (.int .i64 0))⟩])
  (.seq (.block 0 (.loop (.mk [0, 1, 2] [] []) (.seq (.seq (.reg (.mk [0, 1, 2, 27] [] []) [⟨none, some 7, .mv none (.t 1)⟩,
 ⟨none, some 8, .mv none (.t 0)⟩,
 ⟨none, some 9, .lenStr (.t 8)⟩,
 ⟨none, some 10, .bin [] .lss (.t 7) (.t 9)⟩,
 ⟨none, some 11, .mv none (.t 10)⟩,
 ⟨some (11, true), some 12, .mv none (.t 0)⟩,
 ⟨some (11, true), some 13, .mv none (.t 1)⟩,
 ⟨some (11, true), some 14, .ix (.t 12) (.t 13)⟩,
 ⟨some (11, true), some 15, .call [none] none 0 64 [(.t 14)]⟩,
 ⟨some (11, true), some 16, .bin [] .eql (.t 15) (.v (.int .i64 2))⟩,
 ⟨some (11, true), some 17, .mv none (.t 16)⟩,
 ⟨some (17, false), some 18, .mv none (.t 2)⟩,
 ⟨some (17, false), some 19, .mv none (.t 18)⟩,
 ⟨some (19, true), some 20, .mv none (.t 0)⟩,
 ⟨some (19, true), some 21, .mv none (.t 1)⟩,
 ⟨some (19, true), some 22, .ix (.t 20) (.t 21)⟩,
 ⟨some (19, true), some 23, .call [none] none 0 64 [(.t 22)]⟩,
 ⟨some (19, true), some 24, .bin [] .eql (.t 23) (.v (.int .i64 1))⟩,
 ⟨some (17, false), some 25, .pick (.t 19) (.t 24) (.v (.bool false))⟩,
 ⟨some (11, true), some 26, .pick (.t 17) (.v (.bool true)) (.t 25)⟩,
 ⟨none, some 27, .pick (.t 11) (.t 26) (.v (.bool false))⟩])
  (.cond (.t 27) .skip (.exit 0)))
  (.block 1 (.reg (.mk [0, 1, 2] [] []) [⟨none, some 28, .mv none (.t 1)⟩,
 ⟨none, some 29, .bin [] .add (.t 28) (.v (.int .i64 1))⟩,
 ⟨none, some 1, .mvS none (.t 29)⟩])))))
  (.seq (.reg (.mk [6] [] []) [⟨none, some 30, .mvS none (.t 1)⟩,
 ⟨none, some 6, .mvS none (.t 30)⟩])
  .ret)))
theorem k65 {B : Heap} {args : List V} {objs : List Ob} {S : Post} (h : acwp (COk Tryz.prog B) c65 (initSt args objs) (EndP (tabT tab) [.tmp 6] objs.length (mvOf args objs) [] S)) (hn : args.length ≤ Tryz.f65.ntmps := by exact Nat.le_of_ble_eq_true rfl) : CallS Tryz.prog B (mvOf args objs) 65 args objs S :=
  callSB tabOk mixed Tryz.func65 Tryz.call65 (hints [] [([0, 1, 2], []), ([], []), ([0, 1, 2, 27], []), ([0, 1, 2], []), ([0, 1, 2], []), ([], []), ([6], []), ([], [])]) ⟨[6], [], [], []⟩ (by kernel_rfl) rfl rfl (by decide) hn h
def c66 : AC :=
  (.seq (.reg (.mk [0, 1] [] []) [⟨none, some 4, .mvS none (.v (.int .i64 0))⟩])
  (.seq (.reg (.mk [0, 1, 5] [] []) [⟨none, some 7, .buildSl 1 [(.v (.str [61, 61])), (.v (.str [33, 61])), (.v (.str [60, 61])), (.v (.str [62, 61])), (.v (.str [38, 38])), (.v (.str [124, 124])), (.v (.str [61, 62]))]⟩,
 ⟨none, some 5, .mvS (some 1) (.t 7)⟩])
  (.seq (.reg (.mk [0, 1, 5, 6] [] []) [⟨none, some 8, .buildSl 1 [(.v (.str [40])), (.v (.str [41])), (.v (.str [123])), (.v (.str [125])), (.v (.str [91])), (.v (.str [93])), (.v (.str [44])), (.v (.str [59])), (.v (.str [58])), (.v (.str [46])), (.v (.str [61])), (.v (.str [60])), (.v (.str [62])), (.v (.str [43])), (.v (.str [45])), (.v (.str [42])), (.v (.str [47])), (.v (.str [37])), (.v (.str [33])), (.v (.str [124])), (.v (.str [63]))]⟩,
 ⟨none, some 6, .mvS (some 1) (.t 8)⟩])
  (.seq (.seq (.reg (.mk [0, 1, 6, 22] [] []) [⟨none, some 9, .mv none (.t 1)⟩,
 ⟨none, some 10, .bin [] .add (.t 9) (.v (.int .i64 2))⟩,
 ⟨none, some 11, .mv none (.t 0)⟩,
 ⟨none, some 12, .lenStr (.t 11)⟩,
 ⟨none, some 13, .bin [] .leq (.t 10) (.t 12)⟩,
 ⟨none, some 14, .mv none (.t 13)⟩,
 ⟨some (14, true), some 15, .mv (some 1) (.t 5)⟩,
 ⟨some (14, true), some 16, .mv none (.t 0)⟩,
 ⟨some (14, true), some 17, .mv none (.t 1)⟩,
 ⟨some (14, true), some 18, .mv none (.t 1)⟩,
 ⟨some (14, true), some 19, .bin [] .add (.t 18) (.v (.int .i64 2))⟩,
 ⟨some (14, true), some 20, .slc true none false (.t 16) (some (.t 17)) (some (.t 19))⟩,
 ⟨some (14, true), some 21, .call [(some 1), none] none 0 99 [(.t 15), (.t 20)]⟩,
 ⟨none, some 22, .pick (.t 14) (.t 21) (.v (.bool false))⟩])
  (.cond (.t 22) (.seq (.reg (.mk [4] [] []) [⟨none, some 4, .mvS none (.v (.int .i64 2))⟩])
  .ret) .skip))
  (.seq (.seq (.reg (.mk [29] [] []) [⟨none, some 23, .mv (some 1) (.t 6)⟩,
 ⟨none, some 24, .mv none (.t 0)⟩,
 ⟨none, some 25, .mv none (.t 1)⟩,
 ⟨none, some 26, .mv none (.t 1)⟩,
 ⟨none, some 27, .bin [] .add (.t 26) (.v (.int .i64 1))⟩,
 ⟨none, some 28, .slc true none false (.t 24) (some (.t 25)) (some (.t 27))⟩,
 ⟨none, some 29, .call [(some 1), none] none 0 99 [(.t 23), (.t 28)]⟩])
  (.cond (.t 29) (.seq (.reg (.mk [4] [] []) [⟨none, some 4, .mvS none (.v (.int .i64 1))⟩])
  .ret) .skip))
  (.seq (.reg (.mk [4] [] []) [⟨none, some 4, .mvS none (.v (.int .i64 0))⟩])
  .ret))))))
theorem k66 {B : Heap} {args : List V} {objs : List Ob} {S : Post} (h : acwp (COk Tryz.prog B) c66 (initSt args objs) (EndP (tabT tab) [.tmp 4] objs.length (mvOf args objs) [] S)) (hn : args.length ≤ Tryz.f66.ntmps := by exact Nat.le_of_ble_eq_true rfl) : CallS Tryz.prog B (mvOf args objs) 66 args objs S :=
  callSB tabOk mixed Tryz.func66 Tryz.call66 (hints [] [([0, 1], []), ([], []), ([0, 1, 5], []), ([], []), ([0, 1, 5, 6], []), ([], []), ([0, 1, 6, 22], []), ([], []), ([4], []), ([], []), ([29], []), ([], []), ([4], []), ([], []), ([4], []), ([], [])]) ⟨[4], [], [], []⟩ (by kernel_rfl) rfl rfl (by decide) hn h
def c67 : AC :=
  (.seq (.reg (.mk [0] [(.par 0)] []) [⟨none, some 2, .mvS none (.v (.int .i64 0))⟩])
  (.seq (.seq (.regD (.mk [0, 12] [(.par 0)] []) [(0, 4), (1, 4), (2, 4), (3, 4), (0, 5), (1, 5), (2, 5), (3, 5), (0, 6), (1, 6), (2, 6), (3, 6), (0, 7), (1, 7), (2, 7), (0, 8), (1, 8), (2, 8), (3, 8)] [⟨none, some 3, .mv none (.t 0)⟩,
 ⟨none, some 4, .nilc (.t 3)⟩,
 ⟨none, some 5, .fa 1 (.t 4)⟩,
 ⟨none, some 6, .load none false (.t 5)⟩,
 ⟨none, some 7, .mv none (.t 0)⟩,
 ⟨none, some 8, .nilc (.t 7)⟩,
 ⟨none, some 9, .fa 0 (.t 8)⟩,
 ⟨none, some 10, .load none false (.t 9)⟩,
 ⟨none, some 11, .lenSl (.t 10)⟩,
 ⟨none, some 12, .bin [] .lss (.t 6) (.t 11)⟩])
  (.cond (.t 12) (.seq (.regD (.mk [2] [(.par 0)] []) [(0, 4), (1, 4), (2, 4), (3, 4), (0, 5), (1, 5), (2, 5), (3, 5), (0, 6), (1, 6), (2, 6), (3, 6), (0, 7), (1, 7), (2, 7)] [⟨none, some 13, .mv none (.t 0)⟩,
 ⟨none, some 14, .nilc (.t 13)⟩,
 ⟨none, some 15, .fa 0 (.t 14)⟩,
 ⟨none, some 16, .load none false (.t 15)⟩,
 ⟨none, some 17, .mv none (.t 0)⟩,
 ⟨none, some 18, .nilc (.t 17)⟩,
 ⟨none, some 19, .fa 1 (.t 18)⟩,
 ⟨none, some 20, .load none false (.t 19)⟩,
 ⟨none, some 21, .ia (some 3) none (.t 16) (.t 20)⟩,
 ⟨none, some 22, .fa 2 (.t 21)⟩,
 ⟨none, some 23, .load none true (.t 22)⟩,
 ⟨none, some 2, .mvS none (.t 23)⟩])
  .ret) .skip))
  (.seq (.reg (.mk [2] [(.par 0)] []) [⟨none, some 24, .mv none (.t 0)⟩,
 ⟨none, some 25, .nilc (.t 24)⟩,
 ⟨none, some 26, .fa 2 (.t 25)⟩,
 ⟨none, some 27, .load none true (.t 26)⟩,
 ⟨none, some 2, .mvS none (.t 27)⟩])
  .ret)))
theorem k67 {B : Heap} {args : List V} {objs : List Ob} {S : Post} (h : acwp (COk Tryz.prog B) c67 (initSt args objs) (EndP (tabT tab) [.tmp 2] objs.length (mvOf args objs) [] S)) (hn : args.length ≤ Tryz.f67.ntmps := by exact Nat.le_of_ble_eq_true rfl) : CallS Tryz.prog B (mvOf args objs) 67 args objs S :=
  callSB tabOk mixed Tryz.func67 Tryz.call67 (hints [] [([0], [.par 0]), ([], [.par 0]), ([0, 12], [.par 0]), ([], [.par 0]), ([2], [.par 0]), ([], [.par 0]), ([2], [.par 0]), ([], [.par 0])]) ⟨[2], [], [], []⟩ (by kernel_rfl) rfl rfl (by decide) hn h
def c68 : AC :=
  (.seq (.reg (.mk [0] [(.par 0)] []) [⟨none, some 2, .mvS none (.v (.str []))⟩])
  (.seq (.seq (.regD (.mk [0, 34] [(.par 0)] []) [(6, 10), (7, 10), (8, 10), (9, 10), (6, 11), (7, 11), (8, 11), (9, 11), (6, 12), (7, 12), (8, 12), (9, 12), (6, 13), (7, 13), (8, 13), (9, 13), (6, 14), (7, 14), (8, 14), (9, 14), (18, 22), (19, 22), (20, 22), (21, 22), (18, 23), (19, 23), (20, 23), (21, 23), (18, 24), (19, 24), (20, 24), (21, 24), (18, 25), (19, 25), (20, 25), (21, 25)] [⟨none, some 3, .mv none (.t 0)⟩,
 ⟨none, some 4, .nilc (.t 3)⟩,
 ⟨none, some 5, .fa 4 (.t 4)⟩,
 ⟨none, some 6, .load none false (.t 5)⟩,
 ⟨none, some 7, .bin [] .neq (.t 6) (.v (.int .i64 0))⟩,
 ⟨none, some 8, .mv none (.t 7)⟩,
 ⟨some (8, false), some 9, .mv none (.t 0)⟩,
 ⟨some (8, false), some 10, .nilc (.t 9)⟩,
 ⟨some (8, false), some 11, .fa 1 (.t 10)⟩,
 ⟨some (8, false), some 12, .load none false (.t 11)⟩,
 ⟨some (8, false), some 13, .mv none (.t 0)⟩,
 ⟨some (8, false), some 14, .nilc (.t 13)⟩,
 ⟨some (8, false), some 15, .fa 0 (.t 14)⟩,
 ⟨some (8, false), some 16, .load none false (.t 15)⟩,
 ⟨some (8, false), some 17, .lenSl (.t 16)⟩,
 ⟨some (8, false), some 18, .bin [] .geq (.t 12) (.t 17)⟩,
 ⟨none, some 19, .pick (.t 8) (.v (.bool true)) (.t 18)⟩,
 ⟨none, some 20, .mv none (.t 19)⟩,
 ⟨some (20, false), some 21, .mv none (.t 0)⟩,
 ⟨some (20, false), some 22, .nilc (.t 21)⟩,
 ⟨some (20, false), some 23, .fa 0 (.t 22)⟩,
 ⟨some (20, false), some 24, .load none false (.t 23)⟩,
 ⟨some (20, false), some 25, .mv none (.t 0)⟩,
 ⟨some (20, false), some 26, .nilc (.t 25)⟩,
 ⟨some (20, false), some 27, .fa 1 (.t 26)⟩,
 ⟨some (20, false), some 28, .load none false (.t 27)⟩,
 ⟨some (20, false), some 29, .ia (some 3) none (.t 24) (.t 28)⟩,
 ⟨some (20, false), some 30, .fa 1 (.t 29)⟩,
 ⟨some (20, false), some 31, .load none false (.t 30)⟩,
 ⟨some (20, false), some 32, .call [none] none 0 100 [(.t 31)]⟩,
 ⟨some (20, false), some 33, .un .not (.t 32)⟩,
 ⟨none, some 34, .pick (.t 20) (.v (.bool true)) (.t 33)⟩])
  (.cond (.t 34) (.seq (.reg (.mk [] [(.par 0)] []) [⟨none, some 35, .mv none (.t 0)⟩,
 ⟨none, some 36, .call [none, none] none 0 49 [(.t 35), (.v (.int .i64 110))]⟩])
  (.seq (.reg (.mk [2] [(.par 0)] []) [⟨none, some 2, .mvS none (.v (.str []))⟩])
  .ret)) .skip))
  (.seq (.reg (.mk [0] [(.par 0)] []) [⟨none, some 37, .mv none (.t 0)⟩,
 ⟨none, some 38, .nilc (.t 37)⟩,
 ⟨none, some 39, .fa 1 (.t 38)⟩,
 ⟨none, some 40, .load none false (.t 39)⟩,
 ⟨none, some 41, .bin [] .add (.t 40) (.v (.int .i64 1))⟩,
 ⟨none, some 42, .nilc (.t 37)⟩,
 ⟨none, some 43, .fa 1 (.t 42)⟩,
 ⟨none, none, .store 1 none (.t 43) (.t 41)⟩])
  (.seq (.regD (.mk [2] [(.par 0)] []) [(0, 4), (1, 4), (2, 4), (3, 4), (0, 5), (1, 5), (2, 5), (3, 5), (0, 6), (1, 6), (2, 6), (3, 6), (0, 7), (1, 7), (2, 7), (0, 8), (1, 8), (2, 8), (3, 8)] [⟨none, some 44, .mv none (.t 0)⟩,
 ⟨none, some 45, .nilc (.t 44)⟩,
 ⟨none, some 46, .fa 0 (.t 45)⟩,
 ⟨none, some 47, .load none false (.t 46)⟩,
 ⟨none, some 48, .mv none (.t 0)⟩,
 ⟨none, some 49, .nilc (.t 48)⟩,
 ⟨none, some 50, .fa 1 (.t 49)⟩,
 ⟨none, some 51, .load none false (.t 50)⟩,
 ⟨none, some 52, .bin [] .sub (.t 51) (.v (.int .i64 1))⟩,
 ⟨none, some 53, .ia (some 3) none (.t 47) (.t 52)⟩,
 ⟨none, some 54, .fa 1 (.t 53)⟩,
 ⟨none, some 55, .load none true (.t 54)⟩,
 ⟨none, some 2, .mvS none (.t 55)⟩])
  .ret))))
theorem k68 {B : Heap} {args : List V} {objs : List Ob} {S : Post} (h : acwp (COk Tryz.prog B) c68 (initSt args objs) (EndP (tabT tab) [.tmp 2] objs.length (mvOf args objs) [] S)) (hn : args.length ≤ Tryz.f68.ntmps := by exact Nat.le_of_ble_eq_true rfl) : CallS Tryz.prog B (mvOf args objs) 68 args objs S :=
  callSB tabOk mixed Tryz.func68 Tryz.call68 (hints [] [([0], [.par 0]), ([], [.par 0]), ([0, 34], [.par 0]), ([], [.par 0]), ([], [.par 0]), ([], [.par 0]), ([2], [.par 0]), ([], [.par 0]), ([0], [.par 0]), ([], [.par 0]), ([2], [.par 0]), ([], [.par 0])]) ⟨[2], [], [], []⟩ (by kernel_rfl) rfl rfl (by decide) hn h
def c69 : AC :=
  (.seq (.reg (.mk [0, 1] [(.par 0)] []) [⟨none, some 4, .mvS none (.v (.bool false))⟩])
  (.seq (.seq (.reg (.mk [0, 8] [(.par 0)] []) [⟨none, some 5, .mv none (.t 0)⟩,
 ⟨none, some 6, .mv none (.t 1)⟩,
 ⟨none, some 7, .call [none, none, none] none 0 44 [(.t 5), (.v (.int .i64 0)), (.t 6)]⟩,
 ⟨none, some 8, .un .not (.t 7)⟩])
  (.cond (.t 8) (.seq (.reg (.mk [4] [(.par 0)] []) [⟨none, some 4, .mvS none (.v (.bool false))⟩])
  .ret) .skip))
  (.seq (.reg (.mk [] [(.par 0)] []) [⟨none, some 9, .mv none (.t 0)⟩,
 ⟨none, some 10, .nilc (.t 9)⟩,
 ⟨none, some 11, .fa 1 (.t 10)⟩,
 ⟨none, some 12, .load none false (.t 11)⟩,
 ⟨none, some 13, .bin [] .add (.t 12) (.v (.int .i64 1))⟩,
 ⟨none, some 14, .nilc (.t 9)⟩,
 ⟨none, some 15, .fa 1 (.t 14)⟩,
 ⟨none, none, .store 1 none (.t 15) (.t 13)⟩])
  (.seq (.reg (.mk [4] [(.par 0)] []) [⟨none, some 4, .mvS none (.v (.bool true))⟩])
  .ret))))
theorem k69 {B : Heap} {args : List V} {objs : List Ob} {S : Post} (h : acwp (COk Tryz.prog B) c69 (initSt args objs) (EndP (tabT tab) [.tmp 4] objs.length (mvOf args objs) [] S)) (hn : args.length ≤ Tryz.f69.ntmps := by exact Nat.le_of_ble_eq_true rfl) : CallS Tryz.prog B (mvOf args objs) 69 args objs S :=
  callSB tabOk mixed Tryz.func69 Tryz.call69 (hints [] [([0, 1], [.par 0]), ([], [.par 0]), ([0, 8], [.par 0]), ([], [.par 0]), ([4], [.par 0]), ([], [.par 0]), ([], [.par 0]), ([], [.par 0]), ([4], [.par 0]), ([], [.par 0])]) ⟨[4], [], [], []⟩ (by kernel_rfl) rfl rfl (by decide) hn h
def c73 : AC :=
  (.seq (.reg (.mk [0] [(.par 0)] []) [⟨none, some 2, .mvS none (.v (.bool false))⟩])
  (.seq (.seq (.reg (.mk [0, 14] [(.par 0)] []) [⟨none, some 3, .mv none (.t 0)⟩,
 ⟨none, some 4, .nilc (.t 3)⟩,
 ⟨none, some 5, .fa 4 (.t 4)⟩,
 ⟨none, some 6, .load none false (.t 5)⟩,
 ⟨none, some 7, .bin [] .eql (.t 6) (.v (.int .i64 0))⟩,
 ⟨none, some 8, .mv none (.t 7)⟩,
 ⟨some (8, true), some 9, .mv none (.t 0)⟩,
 ⟨some (8, true), some 10, .nilc (.t 9)⟩,
 ⟨some (8, true), some 11, .fa 3 (.t 10)⟩,
 ⟨some (8, true), some 12, .load none false (.t 11)⟩,
 ⟨some (8, true), some 13, .bin [] .geq (.t 12) (.v (.int .i64 100))⟩,
 ⟨none, some 14, .pick (.t 8) (.t 13) (.v (.bool false))⟩])
  (.cond (.t 14) (.reg (.mk [0] [(.par 0)] []) [⟨none, some 15, .mv none (.t 0)⟩,
 ⟨none, some 16, .call [none, none] none 0 49 [(.t 15), (.v (.int .i64 111))]⟩]) .skip))
  (.seq (.reg (.mk [0] [(.par 0)] []) [⟨none, some 17, .mv none (.t 0)⟩,
 ⟨none, some 18, .nilc (.t 17)⟩,
 ⟨none, some 19, .fa 3 (.t 18)⟩,
 ⟨none, some 20, .load none false (.t 19)⟩,
 ⟨none, some 21, .bin [] .add (.t 20) (.v (.int .i64 1))⟩,
 ⟨none, some 22, .nilc (.t 17)⟩,
 ⟨none, some 23, .fa 3 (.t 22)⟩,
 ⟨none, none, .store 1 none (.t 23) (.t 21)⟩])
  (.seq (.reg (.mk [2] [(.par 0)] []) [⟨none, some 24, .mv none (.t 0)⟩,
 ⟨none, some 25, .nilc (.t 24)⟩,
 ⟨none, some 26, .fa 4 (.t 25)⟩,
 ⟨none, some 27, .load none false (.t 26)⟩,
 ⟨none, some 28, .bin [] .eql (.t 27) (.v (.int .i64 0))⟩,
 ⟨none, some 2, .mvS none (.t 28)⟩])
  .ret))))
theorem k73 {B : Heap} {args : List V} {objs : List Ob} {S : Post} (h : acwp (COk Tryz.prog B) c73 (initSt args objs) (EndP (tabT tab) [.tmp 2] objs.length (mvOf args objs) [] S)) (hn : args.length ≤ Tryz.f73.ntmps := by exact Nat.le_of_ble_eq_true rfl) : CallS Tryz.prog B (mvOf args objs) 73 args objs S :=
  callSB tabOk mixed Tryz.func73 Tryz.call73 (hints [] [([0], [.par 0]), ([], [.par 0]), ([0, 14], [.par 0]), ([], [.par 0]), ([0], [.par 0]), ([], [.par 0]), ([0], [.par 0]), ([], [.par 0]), ([2], [.par 0]), ([], [.par 0])]) ⟨[2], [], [], []⟩ (by kernel_rfl) rfl rfl (by decide) hn h
def c74 : AC :=
  (.seq (.reg (.mk [0, 2] [(.par 0), (.loc 2)] []) [⟨none, some 2, .alloc [(.str []), (.str []), (.own 6 []), (.own 5 []), (.own 7 []), (.own 7 []), (.int .i64 0)]⟩])
  (.seq (.reg (.mk [0, 2, 3] [(.par 0), (.loc 2), (.loc 3)] []) [⟨none, some 4, .mv none (.t 0)⟩,
 ⟨none, some 5, .call [none] none 0 67 [(.t 4)]⟩,
 ⟨none, some 6, .build [(0, 1), (1, 1), (2, 1), (3, 1), (4, 1), (5, 1), (6, 1)] [(.str []), (.str []), (.own 6 []), (.own 5 []), (.own 7 []), (.own 7 []), (.int .i64 0)] [6] [(.t 5)]⟩,
 ⟨none, some 3, .alloc [(.str []), (.str []), (.own 6 []), (.own 5 []), (.own 7 []), (.own 7 []), (.int .i64 0)]⟩,
 ⟨none, none, .store 7 none (.t 3) (.t 6)⟩])
  (.seq (.block 0 (.seq (.reg (.mk [0, 2, 3, 9] [(.par 0), (.loc 2), (.loc 3)] []) [⟨none, some 10, .mv none (.t 0)⟩,
 ⟨none, some 11, .call [none, none] none 0 69 [(.t 10), (.v (.str [108, 101, 116]))]⟩,
 ⟨none, some 9, .mvS none (.t 11)⟩])
  (.cond (.t 9) (.seq (.reg (.mk [0, 2, 3] [(.par 0), (.loc 2), (.loc 3)] []) [⟨none, some 12, .fa 0 (.t 3)⟩,
 ⟨none, none, .store 1 none (.t 12) (.v (.str [108, 101, 116]))⟩])
  (.seq (.reg (.mk [0, 2, 3] [(.par 0), (.loc 2), (.loc 3)] []) [⟨none, some 13, .mv none (.t 0)⟩,
 ⟨none, some 14, .call [none] none 0 68 [(.t 13)]⟩,
 ⟨none, some 15, .fa 1 (.t 3)⟩,
 ⟨none, none, .store 1 none (.t 15) (.t 14)⟩])
  (.seq (.seq (.reg (.mk [0, 2, 3, 17] [(.par 0), (.loc 2), (.loc 3)] []) [⟨none, some 16, .mv none (.t 0)⟩,
 ⟨none, some 17, .call [none, none] none 0 69 [(.t 16), (.v (.str [58]))]⟩])
  (.cond (.t 17) (.reg (.mk [0, 2, 3] [(.par 0), (.loc 2), (.loc 3)] []) [⟨none, some 18, .mv none (.t 0)⟩,
 ⟨none, some 19, .call [none] none 0 101 [(.t 18)]⟩,
 ⟨none, some 20, .buildSl 6 [(.t 19)]⟩,
 ⟨none, some 21, .fa 2 (.t 3)⟩,
 ⟨none, none, .store 1 (some 6) (.t 21) (.t 20)⟩]) .skip))
  (.seq (.reg (.mk [0, 2, 3] [(.par 0), (.loc 2), (.loc 3)] []) [⟨none, some 22, .mv none (.t 0)⟩,
 ⟨none, some 23, .call [none, none] none 0 47 [(.t 22), (.v (.str [61]))]⟩])
  (.seq (.reg (.mk [0, 2, 3] [(.par 0), (.loc 2), (.loc 3)] []) [⟨none, some 24, .mv none (.t 0)⟩,
 ⟨none, some 25, .call [none] none 0 102 [(.t 24)]⟩,
 ⟨none, some 26, .buildSl 5 [(.t 25)]⟩,
 ⟨none, some 27, .fa 3 (.t 3)⟩,
 ⟨none, none, .store 1 (some 5) (.t 27) (.t 26)⟩])
  (.reg (.mk [2, 3] [(.par 0), (.loc 2), (.loc 3)] []) [⟨none, some 28, .mv none (.t 0)⟩,
 ⟨none, some 29, (.call [none, none] none 0 47 [(.t 28), (.v (.str [59]))])⟩])))))) (.seq (.reg (.mk [0, 2, 3, 30] [(.par 0), (.loc 2), (.loc 3)] []) [⟨none, (some 31), (.mv none (.t 0))⟩,
 ⟨none, some 32, .call [none, none, none] none 0 44 [(.t 31), (.v (.int .i64 0)), (.v (.str [105, 102]))]⟩,
 ⟨none, some 30, .mvS none (.t 32)⟩])
  (.cond (.t 30) (.reg (.mk [2, 3] [(.par 0), (.loc 2), (.loc 3)] []) [⟨none, some 33, .mv none (.t 0)⟩,
 ⟨none, some 34, .call [none] none 0 105 [(.t 33)]⟩,
 ⟨none, none, (.store 7 none (.t 3) (.t 34))⟩]) (.seq (.reg (.mk [0, 2, 3, 35] [(.par 0), (.loc 2), (.loc 3)] []) [⟨none, (some 36), (.mv none (.t 0))⟩,
 ⟨none, some 37, .call [none, none] none 0 69 [(.t 36), (.v (.str [119, 104, 105, 108, 101]))]⟩,
 ⟨none, some 35, .mvS none (.t 37)⟩])
  (.cond (.t 35) (.seq (.reg (.mk [0, 2, 3] [(.par 0), (.loc 2), (.loc 3)] []) [⟨none, some 38, .fa 0 (.t 3)⟩,
 ⟨none, none, .store 1 none (.t 38) (.v (.str [119, 104, 105, 108, 101]))⟩])
  (.seq (.reg (.mk [0, 2, 3] [(.par 0), (.loc 2), (.loc 3)] []) [⟨none, some 39, .mv none (.t 0)⟩,
 ⟨none, some 40, .call [none, none] none 0 47 [(.t 39), (.v (.str [40]))]⟩])
  (.seq (.reg (.mk [0, 2, 3] [(.par 0), (.loc 2), (.loc 3)] []) [⟨none, some 41, .mv none (.t 0)⟩,
 ⟨none, some 42, .call [none] none 0 102 [(.t 41)]⟩,
 ⟨none, some 43, .buildSl 5 [(.t 42)]⟩,
 ⟨none, some 44, .fa 3 (.t 3)⟩,
 ⟨none, none, .store 1 (some 5) (.t 44) (.t 43)⟩])
  (.seq (.reg (.mk [0, 2, 3] [(.par 0), (.loc 2), (.loc 3)] []) [⟨none, some 45, .mv none (.t 0)⟩,
 ⟨none, some 46, .call [none, none] none 0 47 [(.t 45), (.v (.str [41]))]⟩])
  (.seq (.block 1 (.loop (.mk [0, 2, 3] [(.par 0), (.loc 2), (.loc 3)] []) (.seq (.seq (.reg (.mk [0, 2, 3, 48] [(.par 0), (.loc 2), (.loc 3)] []) [⟨none, some 47, .mv none (.t 0)⟩,
 ⟨none, some 48, .call [none, none] none 0 69 [(.t 47), (.v (.str [105, 110, 118, 97, 114, 105, 97, 110, 116]))]⟩])
  (.cond (.t 48) .skip (.exit 1)))
  (.block 2 (.regD (.mk [0, 2, 3] [(.par 0), (.loc 2), (.loc 3)] []) [(0, 2), (1, 2), (0, 3), (1, 3), (2, 4), (3, 4), (0, 5), (1, 5), (2, 5), (3, 5), (4, 5), (7, 9), (8, 9), (7, 10), (8, 10)] [⟨none, some 49, .fa 3 (.t 3)⟩,
 ⟨none, some 50, .load none true (.t 49)⟩,
 ⟨none, some 51, .mv none (.t 0)⟩,
 ⟨none, some 52, .call [none] none 0 102 [(.t 51)]⟩,
 ⟨none, some 53, .lenSl (.t 50)⟩,
 ⟨none, some 54, .buildSl 5 [(.v (.agg [(.str []), (.str []), (.own 5 []), (.own 6 []), (.int .i64 0)]))]⟩,
 ⟨none, some 55, .appF 5 88 53 52 (.t 50) (.t 54)⟩,
      ⟨none, (some 56), .nopD⟩,
      ⟨none, none, .nopS⟩,
 ⟨none, some 57, .fa 3 (.t 3)⟩,
 ⟨none, none, .store 1 (some 5) (.t 57) (.t 55)⟩])))))
  (.reg (.mk [2, 3] [(.par 0), (.loc 2), (.loc 3)] []) [⟨none, some 58, .mv none (.t 0)⟩,
 ⟨none, some 59, .call [none] none 0 48 [(.t 58)]⟩,
 ⟨none, some 60, .fa 4 (.t 3)⟩,
 ⟨none, none, (.store 1 (some 7) (.t 60) (.t 59))⟩])))))) (.seq (.reg (.mk [0, 2, 3, 61] [(.par 0), (.loc 2), (.loc 3)] []) [⟨none, (some 62), (.mv none (.t 0))⟩,
 ⟨none, some 63, .call [none, none] none 0 69 [(.t 62), (.v (.str [114, 101, 116, 117, 114, 110]))]⟩,
 ⟨none, some 61, .mvS none (.t 63)⟩])
  (.cond (.t 61) (.seq (.reg (.mk [0, 2, 3] [(.par 0), (.loc 2), (.loc 3)] []) [⟨none, some 64, .fa 0 (.t 3)⟩,
 ⟨none, none, .store 1 none (.t 64) (.v (.str [114, 101, 116, 117, 114, 110]))⟩])
  (.seq (.reg (.mk [0, 2, 3, 67] [(.par 0), (.loc 2), (.loc 3)] []) [⟨none, some 65, .mv none (.t 0)⟩,
 ⟨none, some 66, .call [none, none] none 0 69 [(.t 65), (.v (.str [59]))]⟩,
 ⟨none, some 67, .un .not (.t 66)⟩])
  (.cond (.t 67) (.seq (.reg (.mk [0, 2, 3] [(.par 0), (.loc 2), (.loc 3)] []) [⟨none, some 68, .mv none (.t 0)⟩,
 ⟨none, some 69, .call [none] none 0 102 [(.t 68)]⟩,
 ⟨none, some 70, .buildSl 5 [(.t 69)]⟩,
 ⟨none, some 71, .fa 3 (.t 3)⟩,
 ⟨none, none, .store 1 (some 5) (.t 71) (.t 70)⟩])
  (.reg (.mk [2, 3] [(.par 0), (.loc 2), (.loc 3)] []) [⟨none, some 72, .mv none (.t 0)⟩,
 ⟨none, some 73, (.call [none, none] none 0 47 [(.t 72), (.v (.str [59]))])⟩])) .skip))) (.seq (.reg (.mk [0, 2, 3, 74] [(.par 0), (.loc 2), (.loc 3)] []) [⟨none, (some 75), (.mv none (.t 0))⟩,
 ⟨none, some 76, .call [none, none, none] none 0 44 [(.t 75), (.v (.int .i64 0)), (.v (.str [97, 115, 115, 101, 114, 116]))]⟩,
 ⟨none, some 77, .mv none (.t 76)⟩,
 ⟨some (77, false), some 78, .mv none (.t 0)⟩,
 ⟨some (77, false), some 79, .call [none, none, none] none 0 44 [(.t 78), (.v (.int .i64 0)), (.v (.str [112, 114, 105, 110, 116]))]⟩,
 ⟨none, some 80, .pick (.t 77) (.v (.bool true)) (.t 79)⟩,
 ⟨none, some 74, .mvS none (.t 80)⟩])
  (.cond (.t 74) (.seq (.regD (.mk [0, 2, 3] [(.par 0), (.loc 2), (.loc 3)] []) [(0, 4), (1, 4), (2, 4), (3, 4), (0, 5), (1, 5), (2, 5), (3, 5), (0, 6), (1, 6), (2, 6), (3, 6), (0, 7), (1, 7), (2, 7)] [⟨none, some 81, .mv none (.t 0)⟩,
 ⟨none, some 82, .nilc (.t 81)⟩,
 ⟨none, some 83, .fa 0 (.t 82)⟩,
 ⟨none, some 84, .load none false (.t 83)⟩,
 ⟨none, some 85, .mv none (.t 0)⟩,
 ⟨none, some 86, .nilc (.t 85)⟩,
 ⟨none, some 87, .fa 1 (.t 86)⟩,
 ⟨none, some 88, .load none false (.t 87)⟩,
 ⟨none, some 89, .ia (some 3) none (.t 84) (.t 88)⟩,
 ⟨none, some 90, .fa 1 (.t 89)⟩,
 ⟨none, some 91, .load none false (.t 90)⟩,
 ⟨none, some 92, .fa 0 (.t 3)⟩,
 ⟨none, none, .store 1 none (.t 92) (.t 91)⟩])
  (.seq (.reg (.mk [0, 2, 3] [(.par 0), (.loc 2), (.loc 3)] []) [⟨none, some 93, .mv none (.t 0)⟩,
 ⟨none, some 94, .nilc (.t 93)⟩,
 ⟨none, some 95, .fa 1 (.t 94)⟩,
 ⟨none, some 96, .load none false (.t 95)⟩,
 ⟨none, some 97, .bin [] .add (.t 96) (.v (.int .i64 1))⟩,
 ⟨none, some 98, .nilc (.t 93)⟩,
 ⟨none, some 99, .fa 1 (.t 98)⟩,
 ⟨none, none, .store 1 none (.t 99) (.t 97)⟩])
  (.seq (.reg (.mk [0, 2, 3] [(.par 0), (.loc 2), (.loc 3)] []) [⟨none, some 100, .mv none (.t 0)⟩,
 ⟨none, some 101, .call [none] none 0 102 [(.t 100)]⟩,
 ⟨none, some 102, .buildSl 5 [(.t 101)]⟩,
 ⟨none, some 103, .fa 3 (.t 3)⟩,
 ⟨none, none, .store 1 (some 5) (.t 103) (.t 102)⟩])
  (.reg (.mk [2, 3] [(.par 0), (.loc 2), (.loc 3)] []) [⟨none, some 104, .mv none (.t 0)⟩,
 ⟨none, some 105, (.call [none, none] none 0 47 [(.t 104), (.v (.str [59]))])⟩])))) (.reg (.mk [2, 3] [(.par 0), (.loc 2), (.loc 3)] []) [⟨none, (some 7), (.mv none (.t 0))⟩,
 ⟨none, some 8, .call [none, none] none 0 106 [(.t 7), (.t 3)]⟩]))))))))))))
  (.seq (.reg (.mk [2] [(.par 0), (.loc 2)] []) [⟨none, some 106, .load (some 7) false (.t 3)⟩,
 ⟨none, none, .store 7 none (.t 2) (.t 106)⟩])
  .ret))))
theorem k74 {B : Heap} {args : List V} {objs : List Ob} {S : Post} (h : acwp (COk Tryz.prog B) c74 (initSt args objs) (EndP (tabT tab) [.cell 2 103] objs.length (mvOf args objs) [] S)) (hn : args.length ≤ Tryz.f74.ntmps := by exact Nat.le_of_ble_eq_true rfl) : CallS Tryz.prog B (mvOf args objs) 74 args objs S :=
  callSB tabOk mixed Tryz.func74 Tryz.call74 (hints [] [([0, 2], [.par 0, .loc 2]), ([], [.par 0]), ([0, 2, 3], [.par 0, .loc 2, .loc 3]), ([], [.par 0]), ([2, 3], [.par 0, .loc 2, .loc 3]), ([], [.par 0]), ([0, 2, 3, 9], [.par 0, .loc 2, .loc 3]), ([], [.par 0]), ([0, 2, 3], [.par 0, .loc 2, .loc 3]), ([], [.par 0]), ([0, 2, 3], [.par 0, .loc 2, .loc 3]), ([], [.par 0]), ([0, 2, 3, 17], [.par 0, .loc 2, .loc 3]), ([], [.par 0]), ([0, 2, 3], [.par 0, .loc 2, .loc 3]), ([], [.par 0]), ([0, 2, 3], [.par 0, .loc 2, .loc 3]), ([], [.par 0]), ([0, 2, 3], [.par 0, .loc 2, .loc 3]), ([], [.par 0]), ([2, 3], [.par 0, .loc 2, .loc 3]), ([], [.par 0]), ([0, 2, 3, 30], [.par 0, .loc 2, .loc 3]), ([], [.par 0]), ([2, 3], [.par 0, .loc 2, .loc 3]), ([], [.par 0]), ([0, 2, 3, 35], [.par 0, .loc 2, .loc 3]), ([], [.par 0]), ([0, 2, 3], [.par 0, .loc 2, .loc 3]), ([], [.par 0]), ([0, 2, 3], [.par 0, .loc 2, .loc 3]), ([], [.par 0]), ([0, 2, 3], [.par 0, .loc 2, .loc 3]), ([], [.par 0]), ([0, 2, 3], [.par 0, .loc 2, .loc 3]), ([], [.par 0]), ([0, 2, 3, 48], [.par 0, .loc 2, .loc 3]), ([0, 2, 3], [.par 0, .loc 2, .loc 3]), ([0, 2, 3], [.par 0, .loc 2, .loc 3]), ([], [.par 0]), ([2, 3], [.par 0, .loc 2, .loc 3]), ([], [.par 0]), ([0, 2, 3, 61], [.par 0, .loc 2, .loc 3]), ([], [.par 0]), ([0, 2, 3], [.par 0, .loc 2, .loc 3]), ([], [.par 0]), ([0, 2, 3, 67], [.par 0, .loc 2, .loc 3]), ([], [.par 0]), ([0, 2, 3], [.par 0, .loc 2, .loc 3]), ([], [.par 0]), ([2, 3], [.par 0, .loc 2, .loc 3]), ([], [.par 0]), ([0, 2, 3, 74], [.par 0, .loc 2, .loc 3]), ([], [.par 0]), ([0, 2, 3], [.par 0, .loc 2, .loc 3]), ([], [.par 0]), ([0, 2, 3], [.par 0, .loc 2, .loc 3]), ([], [.par 0]), ([0, 2, 3], [.par 0, .loc 2, .loc 3]), ([], [.par 0]), ([2, 3], [.par 0, .loc 2, .loc 3]), ([], [.par 0]), ([2], [.par 0, .loc 2]), ([], [.par 0])]) ⟨[2], [], [], []⟩ (by kernel_rfl) rfl rfl (by decide) hn h
def c75 : AC :=
  (.seq (.reg (.mk [0] [] []) [⟨none, some 2, .mvS none (.v (.int .i64 0))⟩,
 ⟨none, some 3, .mvS none (.v (.int .i64 0))⟩])
  (.seq (.seq (.reg (.mk [0, 4] [] []) [⟨none, some 4, .mvS none (.v (.int .i64 0))⟩])
  (.block 0 (.loop (.mk [0, 4] [] []) (.seq (.seq (.reg (.mk [0, 4, 11] [] []) [⟨none, some 8, .mv none (.t 4)⟩,
 ⟨none, some 9, .mv (some 9) (.t 0)⟩,
 ⟨none, some 10, .lenSl (.t 9)⟩,
 ⟨none, some 11, .bin [] .lss (.t 8) (.t 10)⟩])
  (.cond (.t 11) .skip (.exit 0)))
  (.seq (.block 1 (.seq (.reg (.mk [0, 4, 5] [(.loc 5)] []) [⟨none, some 14, .mv (some 9) (.t 0)⟩,
 ⟨none, some 15, .mv none (.t 4)⟩,
 ⟨none, some 16, .ia (some 9) none (.t 14) (.t 15)⟩,
 ⟨none, some 17, .load (some 9) false (.t 16)⟩,
 ⟨none, some 5, .alloc [(.str []), (.bool false), (.str []), (.own 1 []), (.own 9 []), (.own 5 []), (.own 5 []), (.own 11 []), (.int .i64 0)]⟩,
 ⟨none, none, .store 9 none (.t 5) (.t 17)⟩])
  (.seq (.seq (.reg (.mk [0, 4, 5, 43] [(.loc 5)] []) [⟨none, some 18, .mv none (.t 4)⟩,
 ⟨none, some 19, .bin [] .geq (.t 18) (.v (.int .i64 64))⟩,
 ⟨none, some 20, .mv none (.t 19)⟩,
 ⟨some (20, false), some 21, .fa 4 (.t 5)⟩,
 ⟨some (20, false), some 22, .load none false (.t 21)⟩,
 ⟨some (20, false), some 23, .lenSl (.t 22)⟩,
 ⟨some (20, false), some 24, .bin [] .gtr (.t 23) (.v (.int .i64 64))⟩,
 ⟨none, some 25, .pick (.t 20) (.v (.bool true)) (.t 24)⟩,
 ⟨none, some 26, .mv none (.t 25)⟩,
 ⟨some (26, false), some 27, .fa 5 (.t 5)⟩,
 ⟨some (26, false), some 28, .load none false (.t 27)⟩,
 ⟨some (26, false), some 29, .lenSl (.t 28)⟩,
 ⟨some (26, false), some 30, .bin [] .gtr (.t 29) (.v (.int .i64 64))⟩,
 ⟨none, some 31, .pick (.t 26) (.v (.bool true)) (.t 30)⟩,
 ⟨none, some 32, .mv none (.t 31)⟩,
 ⟨some (32, false), some 33, .fa 7 (.t 5)⟩,
 ⟨some (32, false), some 34, .load none false (.t 33)⟩,
 ⟨some (32, false), some 35, .lenSl (.t 34)⟩,
 ⟨some (32, false), some 36, .bin [] .gtr (.t 35) (.v (.int .i64 64))⟩,
 ⟨none, some 37, .pick (.t 32) (.v (.bool true)) (.t 36)⟩,
 ⟨none, some 38, .mv none (.t 37)⟩,
 ⟨some (38, false), some 39, .fa 3 (.t 5)⟩,
 ⟨some (38, false), some 40, .load none false (.t 39)⟩,
 ⟨some (38, false), some 41, .lenSl (.t 40)⟩,
 ⟨some (38, false), some 42, .bin [] .gtr (.t 41) (.v (.int .i64 64))⟩,
 ⟨none, some 43, .pick (.t 38) (.v (.bool true)) (.t 42)⟩])
  (.cond (.t 43) (.seq (.regD (.mk [2, 3] [] []) [(0, 2), (1, 2)] [⟨none, some 44, .fa 8 (.t 5)⟩,
 ⟨none, some 45, .load none true (.t 44)⟩,
 ⟨none, some 2, .mvS none (.v (.int .i64 126))⟩,
 ⟨none, some 3, .mvS none (.t 45)⟩])
  .ret) .skip))
  (.seq (.seq (.reg (.mk [0, 4, 5, 6] [(.loc 5)] []) [⟨none, some 6, .mvS none (.v (.int .i64 0))⟩])
  (.block 2 (.loop (.mk [0, 4, 5, 6] [(.loc 5)] []) (.seq (.seq (.reg (.mk [0, 4, 5, 6, 50] [(.loc 5)] []) [⟨none, some 46, .mv none (.t 6)⟩,
 ⟨none, some 47, .fa 6 (.t 5)⟩,
 ⟨none, some 48, .load none false (.t 47)⟩,
 ⟨none, some 49, .lenSl (.t 48)⟩,
 ⟨none, some 50, .bin [] .lss (.t 46) (.t 49)⟩])
  (.cond (.t 50) .skip (.exit 2)))
  (.seq (.block 3 (.seq (.reg (.mk [0, 4, 5, 6, 60] [(.loc 5)] []) [⟨none, some 53, .fa 6 (.t 5)⟩,
 ⟨none, some 54, .load none false (.t 53)⟩,
 ⟨none, some 55, .mv none (.t 6)⟩,
 ⟨none, some 56, .ia (some 5) none (.t 54) (.t 55)⟩,
 ⟨none, some 57, .fa 0 (.t 56)⟩,
 ⟨none, some 58, .load none false (.t 57)⟩,
 ⟨none, some 59, .lenSl (.t 58)⟩,
 ⟨none, some 60, .bin [] .gtr (.t 59) (.v (.int .i64 64))⟩])
  (.cond (.t 60) (.seq (.regD (.mk [2, 3] [] []) [(0, 2), (1, 2), (0, 6), (1, 6), (2, 6), (3, 6), (4, 6), (5, 6)] [⟨none, some 61, .fa 6 (.t 5)⟩,
 ⟨none, some 62, .load none false (.t 61)⟩,
 ⟨none, some 63, .mv none (.t 6)⟩,
 ⟨none, some 64, .ia (some 5) none (.t 62) (.t 63)⟩,
 ⟨none, some 65, .fa 4 (.t 64)⟩,
 ⟨none, some 66, .load none true (.t 65)⟩,
 ⟨none, some 2, .mvS none (.v (.int .i64 126))⟩,
 ⟨none, some 3, .mvS none (.t 66)⟩])
  .ret) .skip)))
  (.reg (.mk [0, 4, 5, 6] [(.loc 5)] []) [⟨none, some 51, .mv none (.t 6)⟩,
 ⟨none, some 52, .bin [] .add (.t 51) (.v (.int .i64 1))⟩,
 ⟨none, some 6, .mvS none (.t 52)⟩]))))))
  (.seq (.reg (.mk [0, 4, 5, 7] [(.loc 5)] []) [⟨none, some 7, .mvS none (.v (.int .i64 0))⟩])
  (.block 4 (.loop (.mk [0, 4, 5, 7] [(.loc 5)] []) (.seq (.seq (.reg (.mk [0, 4, 5, 7, 71] [(.loc 5)] []) [⟨none, some 67, .mv none (.t 7)⟩,
 ⟨none, some 68, .fa 7 (.t 5)⟩,
 ⟨none, some 69, .load none false (.t 68)⟩,
 ⟨none, some 70, .lenSl (.t 69)⟩,
 ⟨none, some 71, .bin [] .lss (.t 67) (.t 70)⟩])
  (.cond (.t 71) .skip (.exit 4)))
  (.seq (.block 5 (.seq (.reg (.mk [0, 4, 5, 7, 81] [(.loc 5)] []) [⟨none, some 74, .fa 7 (.t 5)⟩,
 ⟨none, some 75, .load none false (.t 74)⟩,
 ⟨none, some 76, .mv none (.t 7)⟩,
 ⟨none, some 77, .ia (some 11) none (.t 75) (.t 76)⟩,
 ⟨none, some 78, .fa 1 (.t 77)⟩,
 ⟨none, some 79, .load none false (.t 78)⟩,
 ⟨none, some 80, .lenSl (.t 79)⟩,
 ⟨none, some 81, .bin [] .gtr (.t 80) (.v (.int .i64 64))⟩])
  (.cond (.t 81) (.seq (.regD (.mk [2, 3] [] []) [(0, 2), (1, 2), (0, 6), (1, 6), (2, 6), (3, 6), (4, 6), (5, 6)] [⟨none, some 82, .fa 7 (.t 5)⟩,
 ⟨none, some 83, .load none false (.t 82)⟩,
 ⟨none, some 84, .mv none (.t 7)⟩,
 ⟨none, some 85, .ia (some 11) none (.t 83) (.t 84)⟩,
 ⟨none, some 86, .fa 10 (.t 85)⟩,
 ⟨none, some 87, .load none true (.t 86)⟩,
 ⟨none, some 2, .mvS none (.v (.int .i64 126))⟩,
 ⟨none, some 3, .mvS none (.t 87)⟩])
  .ret) .skip)))
  (.reg (.mk [0, 4, 5, 7] [(.loc 5)] []) [⟨none, some 72, .mv none (.t 7)⟩,
 ⟨none, some 73, .bin [] .add (.t 72) (.v (.int .i64 1))⟩,
 ⟨none, some 7, .mvS none (.t 73)⟩]))))))))))
  (.reg (.mk [0, 4] [] []) [⟨none, some 12, .mv none (.t 4)⟩,
 ⟨none, some 13, .bin [] .add (.t 12) (.v (.int .i64 1))⟩,
 ⟨none, some 4, .mvS none (.t 13)⟩]))))))
  (.seq (.reg (.mk [2, 3] [] []) [⟨none, some 2, .mvS none (.v (.int .i64 0))⟩,
 ⟨none, some 3, .mvS none (.v (.int .i64 0))⟩])
  .ret)))
theorem k75 {B : Heap} {args : List V} {objs : List Ob} {S : Post} (h : acwp (COk Tryz.prog B) c75 (initSt args objs) (EndP (tabT tab) [.tmp 2, .tmp 3] objs.length (mvOf args objs) [] S)) (hn : args.length ≤ Tryz.f75.ntmps := by exact Nat.le_of_ble_eq_true rfl) : CallS Tryz.prog B (mvOf args objs) 75 args objs S :=
  callSB tabOk mixed Tryz.func75 Tryz.call75 (hints [] [([0], []), ([], []), ([0, 4], []), ([], []), ([0, 4, 11], []), ([0, 4], []), ([0, 4], []), ([], []), ([0, 4, 5], [.loc 5]), ([], []), ([0, 4, 5, 43], [.loc 5]), ([], []), ([2, 3], []), ([], []), ([0, 4, 5, 6], [.loc 5]), ([], []), ([0, 4, 5, 6, 50], [.loc 5]), ([0, 4, 5, 6], [.loc 5]), ([0, 4, 5, 6], [.loc 5]), ([], []), ([0, 4, 5, 6, 60], [.loc 5]), ([], []), ([2, 3], []), ([], []), ([0, 4, 5, 7], [.loc 5]), ([], []), ([0, 4, 5, 7, 71], [.loc 5]), ([0, 4, 5, 7], [.loc 5]), ([0, 4, 5, 7], [.loc 5]), ([], []), ([0, 4, 5, 7, 81], [.loc 5]), ([], []), ([2, 3], []), ([], []), ([2, 3], []), ([], [])]) ⟨[2, 3], [], [], []⟩ (by kernel_rfl) rfl rfl (by decide) hn h
def c76 : AC :=
  (.seq (.reg (.mk [0] [] []) [⟨none, some 2, .mvS none (.v (.int .i64 0))⟩,
 ⟨none, some 3, .mvS none (.v (.int .i64 0))⟩])
  (.seq (.seq (.reg (.mk [0, 4] [] []) [⟨none, some 4, .mvS none (.v (.int .i64 0))⟩])
  (.block 0 (.loop (.mk [0, 4] [] []) (.seq (.seq (.reg (.mk [0, 4, 13] [] []) [⟨none, some 10, .mv none (.t 4)⟩,
 ⟨none, some 11, .mv (some 9) (.t 0)⟩,
 ⟨none, some 12, .lenSl (.t 11)⟩,
 ⟨none, some 13, .bin [] .lss (.t 10) (.t 12)⟩])
  (.cond (.t 13) .skip (.exit 0)))
  (.seq (.block 1 (.seq (.reg (.mk [0, 4, 24] [] []) [⟨none, some 16, .mv (some 9) (.t 0)⟩,
 ⟨none, some 17, .mv (some 9) (.t 0)⟩,
 ⟨none, some 18, .mv none (.t 4)⟩,
 ⟨none, some 19, .ia (some 9) none (.t 17) (.t 18)⟩,
 ⟨none, some 20, .fa 0 (.t 19)⟩,
 ⟨none, some 21, .load none false (.t 20)⟩,
 ⟨none, some 22, .call [(some 9), none] none 0 107 [(.t 16), (.t 21)]⟩,
 ⟨none, some 23, .mv none (.t 4)⟩,
 ⟨none, some 24, .bin [] .lss (.t 22) (.t 23)⟩])
  (.cond (.t 24) (.seq (.regD (.mk [2, 3] [] []) [(0, 1), (0, 5), (1, 5), (2, 5), (3, 5), (4, 5)] [⟨none, some 25, .mv (some 9) (.t 0)⟩,
 ⟨none, some 26, .mv none (.t 4)⟩,
 ⟨none, some 27, .ia (some 9) none (.t 25) (.t 26)⟩,
 ⟨none, some 28, .fa 8 (.t 27)⟩,
 ⟨none, some 29, .load none true (.t 28)⟩,
 ⟨none, some 2, .mvS none (.v (.int .i64 120))⟩,
 ⟨none, some 3, .mvS none (.t 29)⟩])
  .ret) .skip)))
  (.reg (.mk [0, 4] [] []) [⟨none, some 14, .mv none (.t 4)⟩,
 ⟨none, some 15, .bin [] .add (.t 14) (.v (.int .i64 1))⟩,
 ⟨none, some 4, .mvS none (.t 15)⟩]))))))
  (.seq (.seq (.reg (.mk [0, 5] [] []) [⟨none, some 5, .mvS none (.v (.int .i64 0))⟩])
  (.block 2 (.loop (.mk [0, 5] [] []) (.seq (.seq (.reg (.mk [0, 5, 33] [] []) [⟨none, some 30, .mv none (.t 5)⟩,
 ⟨none, some 31, .mv (some 9) (.t 0)⟩,
 ⟨none, some 32, .lenSl (.t 31)⟩,
 ⟨none, some 33, .bin [] .lss (.t 30) (.t 32)⟩])
  (.cond (.t 33) .skip (.exit 2)))
  (.seq (.block 3 (.seq (.seq (.reg (.mk [0, 5, 41] [] []) [⟨none, some 36, .mv (some 9) (.t 0)⟩,
 ⟨none, some 37, .mv none (.t 5)⟩,
 ⟨none, some 38, .ia (some 9) none (.t 36) (.t 37)⟩,
 ⟨none, some 39, .fa 2 (.t 38)⟩,
 ⟨none, some 40, .load none false (.t 39)⟩,
 ⟨none, some 41, .bin [] .neq (.t 40) (.v (.str []))⟩])
  (.cond (.t 41) (.seq (.reg (.mk [0, 5, 6] [] []) [⟨none, some 42, .mv (some 9) (.t 0)⟩,
 ⟨none, some 43, .mv (some 9) (.t 0)⟩,
 ⟨none, some 44, .mv none (.t 5)⟩,
 ⟨none, some 45, .ia (some 9) none (.t 43) (.t 44)⟩,
 ⟨none, some 46, .fa 2 (.t 45)⟩,
 ⟨none, some 47, .load none false (.t 46)⟩,
 ⟨none, some 48, .call [(some 9), none] none 0 107 [(.t 42), (.t 47)]⟩,
 ⟨none, some 6, .mvS none (.t 48)⟩])
  (.seq (.seq (.reg (.mk [0, 5, 6, 50] [] []) [⟨none, some 49, .mv none (.t 6)⟩,
 ⟨none, some 50, .bin [] .lss (.t 49) (.v (.int .i64 0))⟩])
  (.cond (.t 50) (.seq (.regD (.mk [2, 3] [] []) [(0, 1), (0, 5), (1, 5), (2, 5), (3, 5), (4, 5)] [⟨none, some 51, .mv (some 9) (.t 0)⟩,
 ⟨none, some 52, .mv none (.t 5)⟩,
 ⟨none, some 53, .ia (some 9) none (.t 51) (.t 52)⟩,
 ⟨none, some 54, .fa 8 (.t 53)⟩,
 ⟨none, some 55, .load none true (.t 54)⟩,
 ⟨none, some 2, .mvS none (.v (.int .i64 121))⟩,
 ⟨none, some 3, .mvS none (.t 55)⟩])
  .ret) .skip))
  (.seq (.reg (.mk [0, 5, 60] [] []) [⟨none, some 56, .mv (some 9) (.t 0)⟩,
 ⟨none, some 57, .mv none (.t 6)⟩,
 ⟨none, some 58, .ia (some 9) none (.t 56) (.t 57)⟩,
 ⟨none, some 59, .fa 1 (.t 58)⟩,
 ⟨none, some 60, .load none false (.t 59)⟩])
  (.cond (.t 60) (.seq (.regD (.mk [2, 3] [] []) [(0, 1), (0, 5), (1, 5), (2, 5), (3, 5), (4, 5)] [⟨none, some 61, .mv (some 9) (.t 0)⟩,
 ⟨none, some 62, .mv none (.t 5)⟩,
 ⟨none, some 63, .ia (some 9) none (.t 61) (.t 62)⟩,
 ⟨none, some 64, .fa 8 (.t 63)⟩,
 ⟨none, some 65, .load none true (.t 64)⟩,
 ⟨none, some 2, .mvS none (.v (.int .i64 123))⟩,
 ⟨none, some 3, .mvS none (.t 65)⟩])
  .ret) .skip)))) .skip))
  (.seq (.reg (.mk [0, 5, 7] [] []) [⟨none, some 7, .mvS none (.v (.int .i64 0))⟩])
  (.block 4 (.loop (.mk [0, 5, 7] [] []) (.seq (.seq (.reg (.mk [0, 5, 7, 73] [] []) [⟨none, some 66, .mv none (.t 7)⟩,
 ⟨none, some 67, .mv (some 9) (.t 0)⟩,
 ⟨none, some 68, .mv none (.t 5)⟩,
 ⟨none, some 69, .ia (some 9) none (.t 67) (.t 68)⟩,
 ⟨none, some 70, .fa 3 (.t 69)⟩,
 ⟨none, some 71, .load none false (.t 70)⟩,
 ⟨none, some 72, .lenSl (.t 71)⟩,
 ⟨none, some 73, .bin [] .lss (.t 66) (.t 72)⟩])
  (.cond (.t 73) .skip (.exit 4)))
  (.seq (.block 5 (.seq (.reg (.mk [0, 5, 7, 8] [] []) [⟨none, some 76, .mv (some 9) (.t 0)⟩,
 ⟨none, some 77, .mv (some 9) (.t 0)⟩,
 ⟨none, some 78, .mv none (.t 5)⟩,
 ⟨none, some 79, .ia (some 9) none (.t 77) (.t 78)⟩,
 ⟨none, some 80, .fa 3 (.t 79)⟩,
 ⟨none, some 81, .load none false (.t 80)⟩,
 ⟨none, some 82, .mv none (.t 7)⟩,
 ⟨none, some 83, .ia (some 1) none (.t 81) (.t 82)⟩,
 ⟨none, some 84, .load none false (.t 83)⟩,
 ⟨none, some 85, .call [(some 9), none] none 0 107 [(.t 76), (.t 84)]⟩,
 ⟨none, some 8, .mvS none (.t 85)⟩])
  (.seq (.seq (.reg (.mk [0, 5, 7, 8, 87] [] []) [⟨none, some 86, .mv none (.t 8)⟩,
 ⟨none, some 87, .bin [] .lss (.t 86) (.v (.int .i64 0))⟩])
  (.cond (.t 87) (.seq (.regD (.mk [2, 3] [] []) [(0, 1), (0, 5), (1, 5), (2, 5), (3, 5), (4, 5)] [⟨none, some 88, .mv (some 9) (.t 0)⟩,
 ⟨none, some 89, .mv none (.t 5)⟩,
 ⟨none, some 90, .ia (some 9) none (.t 88) (.t 89)⟩,
 ⟨none, some 91, .fa 8 (.t 90)⟩,
 ⟨none, some 92, .load none true (.t 91)⟩,
 ⟨none, some 2, .mvS none (.v (.int .i64 121))⟩,
 ⟨none, some 3, .mvS none (.t 92)⟩])
  .ret) .skip))
  (.seq (.reg (.mk [0, 5, 7, 98] [] []) [⟨none, some 93, .mv (some 9) (.t 0)⟩,
 ⟨none, some 94, .mv none (.t 8)⟩,
 ⟨none, some 95, .ia (some 9) none (.t 93) (.t 94)⟩,
 ⟨none, some 96, .fa 1 (.t 95)⟩,
 ⟨none, some 97, .load none false (.t 96)⟩,
 ⟨none, some 98, .un .not (.t 97)⟩])
  (.cond (.t 98) (.seq (.regD (.mk [2, 3] [] []) [(0, 1), (0, 5), (1, 5), (2, 5), (3, 5), (4, 5)] [⟨none, some 99, .mv (some 9) (.t 0)⟩,
 ⟨none, some 100, .mv none (.t 5)⟩,
 ⟨none, some 101, .ia (some 9) none (.t 99) (.t 100)⟩,
 ⟨none, some 102, .fa 8 (.t 101)⟩,
 ⟨none, some 103, .load none true (.t 102)⟩,
 ⟨none, some 2, .mvS none (.v (.int .i64 123))⟩,
 ⟨none, some 3, .mvS none (.t 103)⟩])
  .ret) .skip)))))
  (.reg (.mk [0, 5, 7] [] []) [⟨none, some 74, .mv none (.t 7)⟩,
 ⟨none, some 75, .bin [] .add (.t 74) (.v (.int .i64 1))⟩,
 ⟨none, some 7, .mvS none (.t 75)⟩]))))))))
  (.reg (.mk [0, 5] [] []) [⟨none, some 34, .mv none (.t 5)⟩,
 ⟨none, some 35, .bin [] .add (.t 34) (.v (.int .i64 1))⟩,
 ⟨none, some 5, .mvS none (.t 35)⟩]))))))
  (.seq (.seq (.reg (.mk [0, 9] [] []) [⟨none, some 9, .mvS none (.v (.int .i64 0))⟩])
  (.block 6 (.loop (.mk [0, 9] [] []) (.seq (.seq (.reg (.mk [0, 9, 107] [] []) [⟨none, some 104, .mv none (.t 9)⟩,
 ⟨none, some 105, .mv (some 9) (.t 0)⟩,
 ⟨none, some 106, .lenSl (.t 105)⟩,
 ⟨none, some 107, .bin [] .lss (.t 104) (.t 106)⟩])
  (.cond (.t 107) .skip (.exit 6)))
  (.seq (.block 7 (.seq (.reg (.mk [0, 9, 115] [] []) [⟨none, some 110, .mv (some 9) (.t 0)⟩,
 ⟨none, some 111, .mv none (.t 9)⟩,
 ⟨none, some 112, .call [(some 9), none] none 0 79 [(.t 110), (.t 111)]⟩,
 ⟨none, some 113, .mv none (.t 9)⟩,
 ⟨none, some 114, .ia (some 1) none (.t 112) (.t 113)⟩,
 ⟨none, some 115, .load none false (.t 114)⟩])
  (.cond (.t 115) (.seq (.regD (.mk [2, 3] [] []) [(0, 1), (0, 5), (1, 5), (2, 5), (3, 5), (4, 5)] [⟨none, some 116, .mv (some 9) (.t 0)⟩,
 ⟨none, some 117, .mv none (.t 9)⟩,
 ⟨none, some 118, .ia (some 9) none (.t 116) (.t 117)⟩,
 ⟨none, some 119, .fa 8 (.t 118)⟩,
 ⟨none, some 120, .load none true (.t 119)⟩,
 ⟨none, some 2, .mvS none (.v (.int .i64 122))⟩,
 ⟨none, some 3, .mvS none (.t 120)⟩])
  .ret) .skip)))
  (.reg (.mk [0, 9] [] []) [⟨none, some 108, .mv none (.t 9)⟩,
 ⟨none, some 109, .bin [] .add (.t 108) (.v (.int .i64 1))⟩,
 ⟨none, some 9, .mvS none (.t 109)⟩]))))))
  (.seq (.reg (.mk [2, 3] [] []) [⟨none, some 2, .mvS none (.v (.int .i64 0))⟩,
 ⟨none, some 3, .mvS none (.v (.int .i64 0))⟩])
  .ret)))))
theorem k76 {B : Heap} {args : List V} {objs : List Ob} {S : Post} (h : acwp (COk Tryz.prog B) c76 (initSt args objs) (EndP (tabT tab) [.tmp 2, .tmp 3] objs.length (mvOf args objs) [] S)) (hn : args.length ≤ Tryz.f76.ntmps := by exact Nat.le_of_ble_eq_true rfl) : CallS Tryz.prog B (mvOf args objs) 76 args objs S :=
  callSB tabOk mixed Tryz.func76 Tryz.call76 (hints [] [([0], []), ([], []), ([0, 4], []), ([], []), ([0, 4, 13], []), ([0, 4], []), ([0, 4], []), ([], []), ([0, 4, 24], []), ([], []), ([2, 3], []), ([], []), ([0, 5], []), ([], []), ([0, 5, 33], []), ([0, 5], []), ([0, 5], []), ([], []), ([0, 5, 41], []), ([], []), ([0, 5, 6], []), ([], []), ([0, 5, 6, 50], []), ([], []), ([2, 3], []), ([], []), ([0, 5, 60], []), ([], []), ([2, 3], []), ([], []), ([0, 5, 7], []), ([], []), ([0, 5, 7, 73], []), ([0, 5, 7], []), ([0, 5, 7], []), ([], []), ([0, 5, 7, 8], []), ([], []), ([0, 5, 7, 8, 87], []), ([], []), ([2, 3], []), ([], []), ([0, 5, 7, 98], []), ([], []), ([2, 3], []), ([], []), ([0, 9], []), ([], []), ([0, 9, 107], []), ([0, 9], []), ([0, 9], []), ([], []), ([0, 9, 115], []), ([], []), ([2, 3], []), ([], []), ([2, 3], []), ([], [])]) ⟨[2, 3], [], [], []⟩ (by kernel_rfl) rfl rfl (by decide) hn h
def c82 : AC :=
  (.seq (.reg (.mk [1] [(.loc 1)] []) [⟨none, some 1, .box 6 [(.int .i64 0), (.str []), (.bool false), (.own 6 []), (.own 5 []), (.int .i64 0)] (.t 0)⟩,
 ⟨none, some 2, .mvS none (.v (.str []))⟩])
  (.seq (.seq (.reg (.mk [1, 4] [(.loc 1)] []) [⟨none, some 3, .fa 0 (.t 1)⟩,
 ⟨none, some 4, .load none false (.t 3)⟩])
  (.block 0 (.seq (.reg (.mk [1, 4, 5] [(.loc 1)] []) [⟨none, some 6, .bin [] .eql (.t 4) (.v (.int .i64 0))⟩,
 ⟨none, some 5, .mvS none (.t 6)⟩])
  (.cond (.t 5) (.seq (.reg (.mk [2] [] []) [⟨none, some 2, .mvS none (.v (.str [118, 111, 105, 100]))⟩])
  .ret) (.seq (.reg (.mk [1, 4, 7] [(.loc 1)] []) [⟨none, some 8, .bin [] .eql (.t 4) (.v (.int .i64 1))⟩,
 ⟨none, some 7, .mvS none (.t 8)⟩])
  (.cond (.t 7) (.seq (.reg (.mk [2] [] []) [⟨none, some 2, .mvS none (.v (.str [105, 110, 116]))⟩])
  .ret) (.seq (.reg (.mk [1, 4, 9] [(.loc 1)] []) [⟨none, some 10, .bin [] .eql (.t 4) (.v (.int .i64 2))⟩,
 ⟨none, some 9, .mvS none (.t 10)⟩])
  (.cond (.t 9) (.seq (.reg (.mk [2] [] []) [⟨none, some 2, .mvS none (.v (.str [98, 111, 111, 108]))⟩])
  .ret) (.seq (.reg (.mk [1, 4, 11] [(.loc 1)] []) [⟨none, some 12, .bin [] .eql (.t 4) (.v (.int .i64 5))⟩,
 ⟨none, some 11, .mvS none (.t 12)⟩])
  (.cond (.t 11) (.seq (.reg (.mk [2] [] []) [⟨none, some 2, .mvS none (.v (.str [110, 117, 108, 108]))⟩])
  .ret) (.seq (.reg (.mk [1, 13] [(.loc 1)] []) [⟨none, some 14, .bin [] .eql (.t 4) (.v (.int .i64 4))⟩,
 ⟨none, some 13, .mvS none (.t 14)⟩])
  (.cond (.t 13) (.seq (.reg (.mk [2] [] []) [⟨none, some 15, .fa 3 (.t 1)⟩,
 ⟨none, some 16, .load none false (.t 15)⟩,
 ⟨none, some 17, .ia (some 6) none (.t 16) (.v (.int .i64 0))⟩,
 ⟨none, some 18, .load (some 6) false (.t 17)⟩,
 ⟨none, some 19, .call [none] none 0 114 [(.t 18)]⟩,
 ⟨none, some 20, .bin [] .add (.t 19) (.v (.str [91, 93]))⟩,
 ⟨none, some 2, .mvS none (.t 20)⟩])
  .ret) .skip))))))))))))
  (.seq (.reg (.mk [2] [] []) [⟨none, some 21, .fa 1 (.t 1)⟩,
 ⟨none, some 22, .load none true (.t 21)⟩,
 ⟨none, some 2, .mvS none (.t 22)⟩])
  .ret)))
theorem k82 {B : Heap} {args : List V} {objs : List Ob} {S : Post} (h : acwp (COk Tryz.prog B) c82 (initSt args objs) (EndP (tabT tab) [.tmp 2] objs.length (mvOf args objs) [] S)) (hn : args.length ≤ Tryz.f82.ntmps := by exact Nat.le_of_ble_eq_true rfl) : CallS Tryz.prog B (mvOf args objs) 82 args objs S :=
  callSB tabOk mixed Tryz.func82 Tryz.call82 (hints [] [([1], [.loc 1]), ([], []), ([1, 4], [.loc 1]), ([], []), ([1, 4, 5], [.loc 1]), ([], []), ([2], []), ([], []), ([1, 4, 7], [.loc 1]), ([], []), ([2], []), ([], []), ([1, 4, 9], [.loc 1]), ([], []), ([2], []), ([], []), ([1, 4, 11], [.loc 1]), ([], []), ([2], []), ([], []), ([1, 13], [.loc 1]), ([], []), ([2], []), ([], []), ([2], []), ([], [])]) ⟨[2], [], [], []⟩ (by kernel_rfl) rfl rfl (by decide) hn h
end Go.Proofs.YtcdoebbffjejeaaGreatDoor
namespace Go.Proofs.YtcdoebbffjejeaaGreatDoor
open Go.Ax
def c36 : AC :=
  (.seq (.reg (.mk [0, 1] [] []) [⟨none, some 4, .mvS none (.v (.str []))⟩,
 ⟨none, some 5, .mvS none (.v (.str []))⟩,
 ⟨none, some 6, .mvS none (.v (.bool false))⟩])
  (.seq (.reg (.mk [4, 5, 6] [] []) [⟨none, some 7, .mv none (.t 0)⟩,
 ⟨none, some 8, .mv none (.t 1)⟩,
 ⟨none, some 9, .call [none, none] none 0 62 [(.t 7), (.t 8)]⟩,
 ⟨none, some 10, .ext (.t 9) 0⟩,
 ⟨none, some 11, .ext (.t 9) 1⟩,
 ⟨none, some 12, .ext (.t 9) 2⟩,
 ⟨none, some 4, .mvS none (.t 10)⟩,
 ⟨none, some 5, .mvS none (.t 11)⟩,
 ⟨none, some 6, .mvS none (.t 12)⟩])
  .ret))
theorem k36 {B : Heap} {args : List V} {objs : List Ob} {S : Post} (h : acwp (COk Tryz.prog B) c36 (initSt args objs) (EndP (tabT tab) [.tmp 4, .tmp 5, .tmp 6] objs.length (mvOf args objs) [] S)) (hn : args.length ≤ Tryz.f36.ntmps := by exact Nat.le_of_ble_eq_true rfl) : CallS Tryz.prog B (mvOf args objs) 36 args objs S :=
  callSB tabOk mixed Tryz.func36 Tryz.call36 (hints [] [([0, 1], []), ([], []), ([4, 5, 6], []), ([], [])]) ⟨[4, 5, 6], [], [], []⟩ (by kernel_rfl) rfl rfl (by decide) hn h
def c62 : AC :=
  (.seq (.reg (.mk [0, 1] [] []) [⟨none, some 4, .mvS none (.v (.str []))⟩,
 ⟨none, some 5, .mvS none (.v (.str []))⟩,
 ⟨none, some 6, .mvS none (.v (.bool false))⟩])
  (.seq (.seq (.reg (.mk [0, 1, 7] [] []) [⟨none, some 8, .mv none (.t 0)⟩,
 ⟨none, some 9, .mv none (.t 1)⟩,
 ⟨none, some 10, .call [none, none] none 0 98 [(.t 8), (.t 9)]⟩,
 ⟨none, some 7, .mvS none (.t 10)⟩])
  (.seq (.reg (.mk [0, 1, 7, 12] [] []) [⟨none, some 11, .mv none (.t 7)⟩,
 ⟨none, some 12, .bin [] .geq (.t 11) (.v (.int .i64 0))⟩])
  (.cond (.t 12) (.seq (.regD (.mk [4, 5, 6] [] []) [(0, 1), (0, 3), (1, 3), (2, 3), (0, 4), (1, 4), (2, 4), (3, 4), (0, 5), (1, 5), (2, 5), (3, 5), (4, 5), (0, 6), (1, 6), (2, 6), (3, 6), (4, 6), (0, 7), (1, 7), (2, 7), (3, 7), (0, 8), (1, 8), (2, 8), (3, 9), (4, 9), (5, 9), (6, 9), (7, 9), (8, 9)] [⟨none, some 13, .mv none (.t 0)⟩,
 ⟨none, some 14, .mv none (.t 7)⟩,
 ⟨none, some 15, .slc true none true (.t 13) none (some (.t 14))⟩,
 ⟨none, some 16, .mv none (.t 0)⟩,
 ⟨none, some 17, .mv none (.t 7)⟩,
 ⟨none, some 18, .mv none (.t 1)⟩,
 ⟨none, some 19, .lenStr (.t 18)⟩,
 ⟨none, some 20, .bin [] .add (.t 17) (.t 19)⟩,
 ⟨none, some 21, .slc true none true (.t 16) (some (.t 20)) none⟩,
 ⟨none, some 4, .mvS none (.t 15)⟩,
 ⟨none, some 5, .mvS none (.t 21)⟩,
 ⟨none, some 6, .mvS none (.v (.bool true))⟩])
  .ret) .skip)))
  (.seq (.reg (.mk [4, 5, 6] [] []) [⟨none, some 22, .mvS none (.t 0)⟩,
 ⟨none, some 4, .mvS none (.t 22)⟩,
 ⟨none, some 5, .mvS none (.v (.str []))⟩,
 ⟨none, some 6, .mvS none (.v (.bool false))⟩])
  .ret)))
theorem k62 {B : Heap} {args : List V} {objs : List Ob} {S : Post} (h : acwp (COk Tryz.prog B) c62 (initSt args objs) (EndP (tabT tab) [.tmp 4, .tmp 5, .tmp 6] objs.length (mvOf args objs) [] S)) (hn : args.length ≤ Tryz.f62.ntmps := by exact Nat.le_of_ble_eq_true rfl) : CallS Tryz.prog B (mvOf args objs) 62 args objs S :=
  callSB tabOk mixed Tryz.func62 Tryz.call62 (hints [] [([0, 1], []), ([], []), ([0, 1, 7], []), ([], []), ([0, 1, 7, 12], []), ([], []), ([4, 5, 6], []), ([], []), ([4, 5, 6], []), ([], [])]) ⟨[4, 5, 6], [], [], []⟩ (by kernel_rfl) rfl rfl (by decide) hn h
end Go.Proofs.YtcdoebbffjejeaaGreatDoor
