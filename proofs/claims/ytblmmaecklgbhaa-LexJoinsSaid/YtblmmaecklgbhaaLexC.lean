/- A part of the proof of a law of this seat: no condition. -/
import Derived.Test.YtblmmaecklgbhaaT1
import Derived.Test.YtblmmaecklgbhaaAcFn
namespace Go.Proofs.Ytblmmaecklgbhaa
open Go.Ax
def c3 : AC :=
  (.seq (.reg (.mk [0] [] []) [⟨none, (some 2), (.mvS none (.v (.bool false)))⟩])
  (.seq (.seq (.reg (.mk [0, 9] [] []) [⟨none, (some 8), (.call [] none 0 9 [])⟩,
      ⟨none, (some 9), (.un .not (.t 8))⟩])
  (.cond (.t 9) (.seq (.reg (.mk [2] [] []) [⟨none, (some 2), (.mvS none (.v (.bool false)))⟩])
  .ret) .skip))
  (.seq (.reg (.mk [0, 3, 4] [(.loc 4)] []) [⟨none, (some 11), (.mv none (.t 0))⟩,
      ⟨none, (some 12), (.call [none] none 0 10 [(.t 11)])⟩,
      ⟨none, (some 10), (.mv none (.t 12))⟩,
      ⟨none, (some 13), (.ext (.t 10) 0)⟩,
      ⟨none, (some 14), (.ext (.t 10) 1)⟩,
      ⟨none, (some 4), (.alloc [(.int .i64 0), (.int .i64 0)])⟩,
      ⟨none, (some 3), (.mvS (some 3) (.t 13))⟩,
      ⟨none, none, (.store 2 none (.t 4) (.t 14))⟩])
  (.seq (.reg (.mk [3, 4, 5, 6, 7] [(.loc 4)] []) [⟨none, (some 16), (.mv none (.t 0))⟩,
      ⟨none, (some 17), (.call [none] none 0 11 [(.t 16)])⟩,
      ⟨none, (some 15), (.mv none (.t 17))⟩,
      ⟨none, (some 18), (.ext (.t 15) 0)⟩,
      ⟨none, (some 19), (.ext (.t 15) 1)⟩,
      ⟨none, (some 20), (.ext (.t 15) 2)⟩,
      ⟨none, (some 5), (.mvS (some 3) (.t 18))⟩,
      ⟨none, (some 6), (.mvS none (.t 19))⟩,
      ⟨none, (some 7), (.mvS none (.t 20))⟩])
  (.seq (.reg (.mk [2] [] []) [⟨none, (some 21), (.mv (some 3) (.t 3))⟩,
      ⟨none, (some 22), (.mv (some 3) (.t 5))⟩,
      ⟨none, (some 23), (.call [(some 3), (some 3)] none 0 12 [(.t 21), (.t 22)])⟩,
      ⟨none, (some 24), (.mv none (.t 23))⟩,
      ⟨(some (24, true)), (some 25), (.fa 0 (.t 4))⟩,
      ⟨(some (24, true)), (some 26), (.load none false (.t 25))⟩,
      ⟨(some (24, true)), (some 27), (.mv none (.t 6))⟩,
      ⟨(some (24, true)), (some 28), (.bin [] .eql (.t 26) (.t 27))⟩,
      ⟨none, (some 29), (.pick (.t 24) (.t 28) (.v (.bool false)))⟩,
      ⟨none, (some 30), (.mv none (.t 29))⟩,
      ⟨(some (30, true)), (some 31), (.fa 1 (.t 4))⟩,
      ⟨(some (30, true)), (some 32), (.load none false (.t 31))⟩,
      ⟨(some (30, true)), (some 33), (.mv none (.t 7))⟩,
      ⟨(some (30, true)), (some 34), (.bin [] .eql (.t 32) (.t 33))⟩,
      ⟨none, (some 35), (.pick (.t 30) (.t 34) (.v (.bool false)))⟩,
      ⟨none, (some 2), (.mvS none (.t 35))⟩])
  .ret)))))
theorem k3 {B : Heap} {args : List V} {objs : List Ob} {r : V} {objs' news : List Ob} (h : acwp (CallOk Try.prog B) c3 (initSt args objs) (EndA (tabT tab) [.tmp 2] objs.length (mvOf args objs) [] r objs' news)) (hn : args.length ≤ Try.f3.ntmps := by exact Nat.le_of_ble_eq_true rfl) (hlen : objs'.length = objs.length := by rfl) : Ok B 3 args objs r objs' news :=
  callOkB tabOk mixed Try.func3 Try.call3 (hints [] [([0], []), ([], []), ([0, 9], []), ([], []), ([2], []), ([], []), ([0, 3, 4], [.loc 4]), ([], []), ([3, 4, 5, 6, 7], [.loc 4]), ([], []), ([2], []), ([], [])]) ⟨[2], [], [], []⟩ (by kernel_rfl) rfl rfl (by decide) hn hlen h
def c4 : AC :=
  (.seq (.reg (.mk [0] [] []) [⟨none, (some 2), (.mvS none (.v (.bool false)))⟩])
  (.seq (.seq (.reg (.mk [0, 7] [] []) [⟨none, (some 6), (.call [] none 0 9 [])⟩,
      ⟨none, (some 7), (.un .not (.t 6))⟩])
  (.cond (.t 7) (.seq (.reg (.mk [2] [] []) [⟨none, (some 2), (.mvS none (.v (.bool false)))⟩])
  .ret) .skip))
  (.seq (.seq (.reg (.mk [0, 19] [] []) [⟨none, (some 8), (.mv none (.t 0))⟩,
      ⟨none, (some 9), (.call [none] none 0 13 [(.t 8)])⟩,
      ⟨none, (some 10), (.mv none (.t 0))⟩,
      ⟨none, (some 11), (.call [none] none 0 14 [(.t 10)])⟩,
      ⟨none, (some 12), (.bin [1] .neq (.t 9) (.t 11))⟩,
      ⟨none, (some 13), (.mv none (.t 12))⟩,
      ⟨(some (13, false)), (some 14), (.mv none (.t 0))⟩,
      ⟨(some (13, false)), (some 15), (.call [none] none 0 15 [(.t 14)])⟩,
      ⟨(some (13, false)), (some 16), (.mv none (.t 0))⟩,
      ⟨(some (13, false)), (some 17), (.call [none] none 0 16 [(.t 16)])⟩,
      ⟨(some (13, false)), (some 18), (.bin [1] .neq (.t 15) (.t 17))⟩,
      ⟨none, (some 19), (.pick (.t 13) (.v (.bool true)) (.t 18))⟩])
  (.cond (.t 19) (.seq (.reg (.mk [2] [] []) [⟨none, (some 2), (.mvS none (.v (.bool false)))⟩])
  .ret) .skip))
  (.seq (.reg (.mk [0, 3, 4] [(.loc 4)] []) [⟨none, (some 21), (.mv none (.t 0))⟩,
      ⟨none, (some 22), (.call [none] none 0 10 [(.t 21)])⟩,
      ⟨none, (some 20), (.mv none (.t 22))⟩,
      ⟨none, (some 23), (.ext (.t 20) 0)⟩,
      ⟨none, (some 24), (.ext (.t 20) 1)⟩,
      ⟨none, (some 4), (.alloc [(.int .i64 0), (.int .i64 0)])⟩,
      ⟨none, (some 3), (.mvS (some 3) (.t 23))⟩,
      ⟨none, none, (.store 2 none (.t 4) (.t 24))⟩])
  (.seq (.reg (.mk [0, 5] [] []) [⟨none, (some 25), (.fa 0 (.t 4))⟩,
      ⟨none, (some 26), (.load none false (.t 25))⟩,
      ⟨none, (some 27), (.bin [] .eql (.t 26) (.v (.int .i64 0)))⟩,
      ⟨none, (some 28), (.mv none (.t 27))⟩,
      ⟨(some (28, true)), (some 29), (.mv (some 3) (.t 3))⟩,
      ⟨(some (28, true)), (some 30), (.lenSl (.t 29))⟩,
      ⟨(some (28, true)), (some 31), (.bin [] .eql (.t 30) (.v (.int .i64 1)))⟩,
      ⟨none, (some 32), (.pick (.t 28) (.t 31) (.v (.bool false)))⟩,
      ⟨none, (some 33), (.mv none (.t 32))⟩,
      ⟨(some (33, true)), (some 34), (.mv (some 3) (.t 3))⟩,
      ⟨(some (33, true)), (some 35), (.ia (some 3) none (.t 34) (.v (.int .i64 0)))⟩,
      ⟨(some (33, true)), (some 36), (.load (some 3) false (.t 35))⟩,
      ⟨(some (33, true)), (some 37), (.mv none (.t 0))⟩,
      ⟨(some (33, true)), (some 38), (.build [(0, 1), (1, 1), (2, 1)] [(.int .i64 0), (.str []), (.int .i64 0)] [0, 1] [(.v (.int .i64 1)), (.t 37)])⟩,
      ⟨(some (33, true)), (some 39), (.bin [10, 2, 4, 2] .eql (.t 36) (.t 38))⟩,
      ⟨none, (some 40), (.pick (.t 33) (.t 39) (.v (.bool false)))⟩,
      ⟨none, (some 5), (.mvS none (.t 40))⟩])
  (.seq (.reg (.mk [2] [] []) [⟨none, (some 41), (.mv none (.t 0))⟩,
      ⟨none, (some 42), (.call [none] none 0 15 [(.t 41)])⟩,
      ⟨none, (some 43), (.un .not (.t 42))⟩,
      ⟨none, (some 44), (.mv none (.t 43))⟩,
      ⟨(some (44, true)), (some 45), (.mv none (.t 0))⟩,
      ⟨(some (44, true)), (some 46), (.call [none] none 0 13 [(.t 45)])⟩,
      ⟨(some (44, true)), (some 47), (.un .not (.t 46))⟩,
      ⟨none, (some 48), (.pick (.t 44) (.t 47) (.v (.bool false)))⟩,
      ⟨none, (some 49), (.mv none (.t 48))⟩,
      ⟨(some (49, false)), (some 50), (.mv none (.t 5))⟩,
      ⟨none, (some 51), (.pick (.t 49) (.v (.bool true)) (.t 50))⟩,
      ⟨none, (some 2), (.mvS none (.t 51))⟩])
  .ret))))))
theorem k4 {B : Heap} {args : List V} {objs : List Ob} {r : V} {objs' news : List Ob} (h : acwp (CallOk Try.prog B) c4 (initSt args objs) (EndA (tabT tab) [.tmp 2] objs.length (mvOf args objs) [] r objs' news)) (hn : args.length ≤ Try.f4.ntmps := by exact Nat.le_of_ble_eq_true rfl) (hlen : objs'.length = objs.length := by rfl) : Ok B 4 args objs r objs' news :=
  callOkB tabOk mixed Try.func4 Try.call4 (hints [] [([0], []), ([], []), ([0, 7], []), ([], []), ([2], []), ([], []), ([0, 19], []), ([], []), ([2], []), ([], []), ([0, 3, 4], [.loc 4]), ([], []), ([0, 5], []), ([], []), ([2], []), ([], [])]) ⟨[2], [], [], []⟩ (by kernel_rfl) rfl rfl (by decide) hn hlen h
def c5 : AC :=
  (.seq (.reg (.mk [0, 1, 2] [] []) [⟨none, (some 6), (.mvS none (.v (.bool false)))⟩])
  (.seq (.seq (.reg (.mk [0, 1, 2, 16] [] []) [⟨none, (some 15), (.call [] none 0 9 [])⟩,
      ⟨none, (some 16), (.un .not (.t 15))⟩])
  (.cond (.t 16) (.seq (.reg (.mk [6] [] []) [⟨none, (some 6), (.mvS none (.v (.bool false)))⟩])
  .ret) .skip))
  (.seq (.seq (.reg (.mk [0, 1, 2, 7] [] []) [⟨none, (some 7), (.mvS none (.v (.int .i64 0)))⟩])
  (.block 0 (.loop (.mk [0, 1, 2, 7] [] []) (.seq (.seq (.reg (.mk [0, 1, 2, 7, 20] [] []) [⟨none, (some 17), (.mv none (.t 7))⟩,
      ⟨none, (some 18), (.mv none (.t 1))⟩,
      ⟨none, (some 19), (.lenStr (.t 18))⟩,
      ⟨none, (some 20), (.bin [] .lss (.t 17) (.t 19))⟩])
  (.cond (.t 20) .skip (.exit 0)))
  (.seq (.block 1 (.seq (.reg (.mk [0, 1, 2, 7, 26] [] []) [⟨none, (some 23), (.mv none (.t 1))⟩,
      ⟨none, (some 24), (.mv none (.t 7))⟩,
      ⟨none, (some 25), (.ix (.t 23) (.t 24))⟩,
      ⟨none, (some 26), (.bin [] .eql (.t 25) (.v (.int .u8 10)))⟩])
  (.cond (.t 26) (.seq (.reg (.mk [6] [] []) [⟨none, (some 6), (.mvS none (.v (.bool true)))⟩])
  .ret) .skip)))
  (.reg (.mk [0, 1, 2, 7] [] []) [⟨none, (some 21), (.mv none (.t 7))⟩,
      ⟨none, (some 22), (.bin [] .add (.t 21) (.v (.int .i64 1)))⟩,
      ⟨none, (some 7), (.mvS none (.t 22))⟩]))))))
  (.seq (.reg (.mk [0, 2, 8] [] []) [⟨none, (some 27), (.mv none (.t 1))⟩,
      ⟨none, (some 28), (.bin [] .add (.v (.str [47, 47])) (.t 27))⟩,
      ⟨none, (some 29), (.bin [] .add (.t 28) (.v (.str [10])))⟩,
      ⟨none, (some 8), (.mvS none (.t 29))⟩])
  (.seq (.seq (.reg (.mk [0, 2, 8, 9] [] []) [⟨none, (some 9), (.mvS none (.v (.int .i64 0)))⟩])
  (.block 2 (.loop (.mk [0, 2, 8, 9] [] []) (.seq (.seq (.reg (.mk [0, 2, 8, 9, 36] [] []) [⟨none, (some 30), (.mv none (.t 9))⟩,
      ⟨none, (some 31), (.mv none (.t 2))⟩,
      ⟨none, (some 32), (.bin [] .lss (.t 30) (.t 31))⟩,
      ⟨none, (some 33), (.mv none (.t 32))⟩,
      ⟨(some (33, true)), (some 34), (.mv none (.t 9))⟩,
      ⟨(some (33, true)), (some 35), (.bin [] .lss (.t 34) (.v (.int .i64 20)))⟩,
      ⟨none, (some 36), (.pick (.t 33) (.t 35) (.v (.bool false)))⟩])
  (.cond (.t 36) .skip (.exit 2)))
  (.seq (.block 3 (.reg (.mk [0, 2, 8, 9] [] []) [⟨none, (some 39), (.mv none (.t 8))⟩,
      ⟨none, (some 40), (.mv none (.t 9))⟩,
      ⟨none, (some 41), (.bin [] .rem (.t 40) (.v (.int .i64 4)))⟩,
      ⟨none, (some 42), (.mv none (.t 9))⟩,
      ⟨none, (some 43), (.bin [] .rem (.t 42) (.v (.int .i64 4)))⟩,
      ⟨none, (some 44), (.bin [] .add (.t 43) (.v (.int .i64 1)))⟩,
      ⟨none, (some 45), (.slc true none false (.v (.str [32, 9, 13, 10])) (some (.t 41)) (some (.t 44)))⟩,
      ⟨none, (some 46), (.bin [] .add (.t 39) (.t 45))⟩,
      ⟨none, (some 8), (.mvS none (.t 46))⟩]))
  (.reg (.mk [0, 2, 8, 9] [] []) [⟨none, (some 37), (.mv none (.t 9))⟩,
      ⟨none, (some 38), (.bin [] .add (.t 37) (.v (.int .i64 1)))⟩,
      ⟨none, (some 9), (.mvS none (.t 38))⟩]))))))
  (.seq (.seq (.reg (.mk [0, 8, 52] [] []) [⟨none, (some 47), (.mv none (.t 0))⟩,
      ⟨none, (some 48), (.lenStr (.t 47))⟩,
      ⟨none, (some 49), (.mv none (.t 8))⟩,
      ⟨none, (some 50), (.lenStr (.t 49))⟩,
      ⟨none, (some 51), (.bin [] .add (.t 48) (.t 50))⟩,
      ⟨none, (some 52), (.bin [] .gtr (.t 51) (.v (.int .i64 65536)))⟩])
  (.cond (.t 52) (.seq (.reg (.mk [6] [] []) [⟨none, (some 6), (.mvS none (.v (.bool true)))⟩])
  .ret) .skip))
  (.seq (.reg (.mk [0, 8, 10, 11] [(.loc 11)] []) [⟨none, (some 54), (.mv none (.t 0))⟩,
      ⟨none, (some 55), (.call [none] none 0 10 [(.t 54)])⟩,
      ⟨none, (some 53), (.mv none (.t 55))⟩,
      ⟨none, (some 56), (.ext (.t 53) 0)⟩,
      ⟨none, (some 57), (.ext (.t 53) 1)⟩,
      ⟨none, (some 11), (.alloc [(.int .i64 0), (.int .i64 0)])⟩,
      ⟨none, (some 10), (.mvS (some 3) (.t 56))⟩,
      ⟨none, none, (.store 2 none (.t 11) (.t 57))⟩])
  (.seq (.reg (.mk [8, 10, 11, 12, 13] [(.loc 11), (.loc 13)] []) [⟨none, (some 59), (.mv none (.t 8))⟩,
      ⟨none, (some 60), (.mv none (.t 0))⟩,
      ⟨none, (some 61), (.bin [] .add (.t 59) (.t 60))⟩,
      ⟨none, (some 62), (.call [none] none 0 10 [(.t 61)])⟩,
      ⟨none, (some 58), (.mv none (.t 62))⟩,
      ⟨none, (some 63), (.ext (.t 58) 0)⟩,
      ⟨none, (some 64), (.ext (.t 58) 1)⟩,
      ⟨none, (some 13), (.alloc [(.int .i64 0), (.int .i64 0)])⟩,
      ⟨none, (some 12), (.mvS (some 3) (.t 63))⟩,
      ⟨none, none, (.store 2 none (.t 13) (.t 64))⟩])
  (.seq (.seq (.reg (.mk [8, 10, 12, 91] [] []) [⟨none, (some 65), (.fa 0 (.t 11))⟩,
      ⟨none, (some 66), (.load none false (.t 65))⟩,
      ⟨none, (some 67), (.fa 0 (.t 13))⟩,
      ⟨none, (some 68), (.load none false (.t 67))⟩,
      ⟨none, (some 69), (.bin [] .neq (.t 66) (.t 68))⟩,
      ⟨none, (some 70), (.mv none (.t 69))⟩,
      ⟨(some (70, false)), (some 71), (.mv (some 3) (.t 10))⟩,
      ⟨(some (70, false)), (some 72), (.lenSl (.t 71))⟩,
      ⟨(some (70, false)), (some 73), (.mv (some 3) (.t 12))⟩,
      ⟨(some (70, false)), (some 74), (.lenSl (.t 73))⟩,
      ⟨(some (70, false)), (some 75), (.bin [] .neq (.t 72) (.t 74))⟩,
      ⟨none, (some 76), (.pick (.t 70) (.v (.bool true)) (.t 75))⟩,
      ⟨none, (some 77), (.mv none (.t 76))⟩,
      ⟨(some (77, false)), (some 78), (.fa 0 (.t 11))⟩,
      ⟨(some (77, false)), (some 79), (.load none false (.t 78))⟩,
      ⟨(some (77, false)), (some 80), (.bin [] .neq (.t 79) (.v (.int .i64 0)))⟩,
      ⟨(some (77, false)), (some 81), (.mv none (.t 80))⟩,
      ⟨(some (81, true)), (some 82), (.fa 1 (.t 13))⟩,
      ⟨(some (81, true)), (some 83), (.load none false (.t 82))⟩,
      ⟨(some (81, true)), (some 84), (.fa 1 (.t 11))⟩,
      ⟨(some (81, true)), (some 85), (.load none false (.t 84))⟩,
      ⟨(some (81, true)), (some 86), (.mv none (.t 8))⟩,
      ⟨(some (81, true)), (some 87), (.lenStr (.t 86))⟩,
      ⟨(some (81, true)), (some 88), (.bin [] .add (.t 85) (.t 87))⟩,
      ⟨(some (81, true)), (some 89), (.bin [] .neq (.t 83) (.t 88))⟩,
      ⟨(some (77, false)), (some 90), (.pick (.t 81) (.t 89) (.v (.bool false)))⟩,
      ⟨none, (some 91), (.pick (.t 77) (.v (.bool true)) (.t 90))⟩])
  (.cond (.t 91) (.seq (.reg (.mk [6] [] []) [⟨none, (some 6), (.mvS none (.v (.bool false)))⟩])
  .ret) .skip))
  (.seq (.seq (.reg (.mk [8, 10, 12, 14] [] []) [⟨none, (some 14), (.mvS none (.v (.int .i64 0)))⟩])
  (.block 4 (.loop (.mk [8, 10, 12, 14] [] []) (.seq (.seq (.reg (.mk [8, 10, 12, 14, 95] [] []) [⟨none, (some 92), (.mv none (.t 14))⟩,
      ⟨none, (some 93), (.mv (some 3) (.t 10))⟩,
      ⟨none, (some 94), (.lenSl (.t 93))⟩,
      ⟨none, (some 95), (.bin [] .lss (.t 92) (.t 94))⟩])
  (.cond (.t 95) .skip (.exit 4)))
  (.seq (.block 5 (.seq (.regD (.mk [8, 10, 12, 14, 137] [] []) [(0, 1), (0, 5), (1, 5), (2, 5), (3, 5), (4, 5), (0, 6), (1, 6), (2, 6), (3, 6), (4, 6), (5, 6), (0, 7), (1, 7), (2, 7), (3, 7), (4, 7), (0, 8), (1, 8), (2, 8), (3, 8), (4, 8), (0, 9), (1, 9), (2, 9), (3, 9), (4, 9), (12, 13), (12, 17), (13, 17), (14, 17), (15, 17), (16, 17), (12, 18), (13, 18), (14, 18), (15, 18), (16, 18), (17, 18), (12, 19), (13, 19), (14, 19), (15, 19), (16, 19), (12, 20), (13, 20), (14, 20), (15, 20), (16, 20), (12, 21), (13, 21), (14, 21), (15, 21), (16, 21), (25, 26), (25, 30), (26, 30), (27, 30), (28, 30), (29, 30), (25, 31), (26, 31), (27, 31), (28, 31), (29, 31), (30, 31), (25, 32), (26, 32), (27, 32), (28, 32), (29, 32), (25, 33), (26, 33), (27, 33), (28, 33), (29, 33), (25, 34), (26, 34), (27, 34), (28, 34), (29, 34), (25, 35), (26, 35), (27, 35), (28, 35), (29, 35), (30, 35), (31, 35), (32, 35), (33, 35), (34, 35), (25, 36), (26, 36), (27, 36), (28, 36), (29, 36), (30, 36), (31, 36), (32, 36), (33, 36), (34, 36), (25, 37), (26, 37), (27, 37), (28, 37), (29, 37)] [⟨none, (some 98), (.mv (some 3) (.t 10))⟩,
      ⟨none, (some 99), (.mv none (.t 14))⟩,
      ⟨none, (some 100), (.ia (some 3) none (.t 98) (.t 99))⟩,
      ⟨none, (some 101), (.fa 0 (.t 100))⟩,
      ⟨none, (some 102), (.load none false (.t 101))⟩,
      ⟨none, (some 103), (.mv (some 3) (.t 12))⟩,
      ⟨none, (some 104), (.mv none (.t 14))⟩,
      ⟨none, (some 105), (.ia (some 3) none (.t 103) (.t 104))⟩,
      ⟨none, (some 106), (.fa 0 (.t 105))⟩,
      ⟨none, (some 107), (.load none false (.t 106))⟩,
      ⟨none, (some 108), (.bin [] .neq (.t 102) (.t 107))⟩,
      ⟨none, (some 109), (.mv none (.t 108))⟩,
      ⟨(some (109, false)), (some 110), (.mv (some 3) (.t 10))⟩,
      ⟨(some (109, false)), (some 111), (.mv none (.t 14))⟩,
      ⟨(some (109, false)), (some 112), (.ia (some 3) none (.t 110) (.t 111))⟩,
      ⟨(some (109, false)), (some 113), (.fa 1 (.t 112))⟩,
      ⟨(some (109, false)), (some 114), (.load none false (.t 113))⟩,
      ⟨(some (109, false)), (some 115), (.mv (some 3) (.t 12))⟩,
      ⟨(some (109, false)), (some 116), (.mv none (.t 14))⟩,
      ⟨(some (109, false)), (some 117), (.ia (some 3) none (.t 115) (.t 116))⟩,
      ⟨(some (109, false)), (some 118), (.fa 1 (.t 117))⟩,
      ⟨(some (109, false)), (some 119), (.load none false (.t 118))⟩,
      ⟨(some (109, false)), (some 120), (.bin [] .neq (.t 114) (.t 119))⟩,
      ⟨none, (some 121), (.pick (.t 109) (.v (.bool true)) (.t 120))⟩,
      ⟨none, (some 122), (.mv none (.t 121))⟩,
      ⟨(some (122, false)), (some 123), (.mv (some 3) (.t 12))⟩,
      ⟨(some (122, false)), (some 124), (.mv none (.t 14))⟩,
      ⟨(some (122, false)), (some 125), (.ia (some 3) none (.t 123) (.t 124))⟩,
      ⟨(some (122, false)), (some 126), (.fa 2 (.t 125))⟩,
      ⟨(some (122, false)), (some 127), (.load none false (.t 126))⟩,
      ⟨(some (122, false)), (some 128), (.mv (some 3) (.t 10))⟩,
      ⟨(some (122, false)), (some 129), (.mv none (.t 14))⟩,
      ⟨(some (122, false)), (some 130), (.ia (some 3) none (.t 128) (.t 129))⟩,
      ⟨(some (122, false)), (some 131), (.fa 2 (.t 130))⟩,
      ⟨(some (122, false)), (some 132), (.load none false (.t 131))⟩,
      ⟨(some (122, false)), (some 133), (.mv none (.t 8))⟩,
      ⟨(some (122, false)), (some 134), (.lenStr (.t 133))⟩,
      ⟨(some (122, false)), (some 135), (.bin [] .add (.t 132) (.t 134))⟩,
      ⟨(some (122, false)), (some 136), (.bin [] .neq (.t 127) (.t 135))⟩,
      ⟨none, (some 137), (.pick (.t 122) (.v (.bool true)) (.t 136))⟩])
  (.cond (.t 137) (.seq (.reg (.mk [6] [] []) [⟨none, (some 6), (.mvS none (.v (.bool false)))⟩])
  .ret) .skip)))
  (.reg (.mk [8, 10, 12, 14] [] []) [⟨none, (some 96), (.mv none (.t 14))⟩,
      ⟨none, (some 97), (.bin [] .add (.t 96) (.v (.int .i64 1)))⟩,
      ⟨none, (some 14), (.mvS none (.t 97))⟩]))))))
  (.seq (.reg (.mk [6] [] []) [⟨none, (some 6), (.mvS none (.v (.bool true)))⟩])
  .ret)))))))))))
theorem k5 {B : Heap} {args : List V} {objs : List Ob} {r : V} {objs' news : List Ob} (h : acwp (CallOk Try.prog B) c5 (initSt args objs) (EndA (tabT tab) [.tmp 6] objs.length (mvOf args objs) [] r objs' news)) (hn : args.length ≤ Try.f5.ntmps := by exact Nat.le_of_ble_eq_true rfl) (hlen : objs'.length = objs.length := by rfl) : Ok B 5 args objs r objs' news :=
  callOkB tabOk mixed Try.func5 Try.call5 (hints [] [([0, 1, 2], []), ([], []), ([0, 1, 2, 16], []), ([], []), ([6], []), ([], []), ([0, 1, 2, 7], []), ([], []), ([0, 1, 2, 7, 20], []), ([0, 1, 2, 7], []), ([0, 1, 2, 7], []), ([], []), ([0, 1, 2, 7, 26], []), ([], []), ([6], []), ([], []), ([0, 2, 8], []), ([], []), ([0, 2, 8, 9], []), ([], []), ([0, 2, 8, 9, 36], []), ([0, 2, 8, 9], []), ([0, 2, 8, 9], []), ([], []), ([0, 2, 8, 9], []), ([], []), ([0, 8, 52], []), ([], []), ([6], []), ([], []), ([0, 8, 10, 11], [.loc 11]), ([], []), ([8, 10, 11, 12, 13], [.loc 11, .loc 13]), ([], []), ([8, 10, 12, 91], []), ([], []), ([6], []), ([], []), ([8, 10, 12, 14], []), ([], []), ([8, 10, 12, 14, 95], []), ([8, 10, 12, 14], []), ([8, 10, 12, 14], []), ([], []), ([8, 10, 12, 14, 137], []), ([], []), ([6], []), ([], []), ([6], []), ([], [])]) ⟨[6], [], [], []⟩ (by kernel_rfl) rfl rfl (by decide) hn hlen h
def c6 : AC :=
  (.seq (.reg (.mk [0, 1] [] []) [⟨none, (some 4), (.mvS none (.v (.bool false)))⟩])
  (.seq (.seq (.reg (.mk [0, 1, 14] [] []) [⟨none, (some 13), (.call [] none 0 9 [])⟩,
      ⟨none, (some 14), (.un .not (.t 13))⟩])
  (.cond (.t 14) (.seq (.reg (.mk [4] [] []) [⟨none, (some 4), (.mvS none (.v (.bool false)))⟩])
  .ret) .skip))
  (.seq (.seq (.reg (.mk [0, 1, 20] [] []) [⟨none, (some 15), (.mv none (.t 1))⟩,
      ⟨none, (some 16), (.bin [] .lss (.t 15) (.v (.int .i64 1)))⟩,
      ⟨none, (some 17), (.mv none (.t 16))⟩,
      ⟨(some (17, false)), (some 18), (.mv none (.t 1))⟩,
      ⟨(some (17, false)), (some 19), (.bin [] .gtr (.t 18) (.v (.int .i64 70000)))⟩,
      ⟨none, (some 20), (.pick (.t 17) (.v (.bool true)) (.t 19))⟩])
  (.cond (.t 20) (.seq (.reg (.mk [4] [] []) [⟨none, (some 4), (.mvS none (.v (.bool true)))⟩])
  .ret) .skip))
  (.seq (.reg (.mk [0, 1, 5] [(.loc 22)] []) [⟨none, (some 21), (.mv none (.t 1))⟩,
      ⟨none, (some 22), (.mkSl 1 [(.int .u8 0)] (.t 21) (.t 21))⟩,
      ⟨none, (some 5), (.mvS (some 1) (.t 22))⟩])
  (.seq (.seq (.reg (.mk [0, 1, 5, 6] [(.loc 22)] []) [⟨none, (some 6), (.mvS none (.v (.int .i64 0)))⟩])
  (.block 0 (.loop (.mk [0, 1, 5, 6] [(.loc 22)] []) (.seq (.seq (.reg (.mk [0, 1, 5, 6, 25] [(.loc 22)] []) [⟨none, (some 23), (.mv none (.t 6))⟩,
      ⟨none, (some 24), (.mv none (.t 1))⟩,
      ⟨none, (some 25), (.bin [] .lss (.t 23) (.t 24))⟩])
  (.cond (.t 25) .skip (.exit 0)))
  (.seq (.block 1 (.reg (.mk [0, 1, 5, 6] [(.loc 22)] []) [⟨none, (some 28), (.mv (some 1) (.t 5))⟩,
      ⟨none, (some 29), (.mv none (.t 6))⟩,
      ⟨none, (some 30), (.mv none (.t 0))⟩,
      ⟨none, (some 31), (.mx (.t 30) (.v (.int .i64 0)))⟩,
      ⟨none, (some 32), (.mn (.t 31) (.v (.int .i64 2)))⟩,
      ⟨none, (some 33), (.ix (.v (.str [97, 49, 32])) (.t 32))⟩,
      ⟨none, (some 34), (.ia (some 1) none (.t 28) (.t 29))⟩,
      ⟨none, none, (.store 1 none (.t 34) (.t 33))⟩]))
  (.reg (.mk [0, 1, 5, 6] [(.loc 22)] []) [⟨none, (some 26), (.mv none (.t 6))⟩,
      ⟨none, (some 27), (.bin [] .add (.t 26) (.v (.int .i64 1)))⟩,
      ⟨none, (some 6), (.mvS none (.t 27))⟩]))))))
  (.seq (.reg (.mk [0, 1, 5, 7, 8] [(.loc 8), (.loc 22)] []) [⟨none, (some 36), (.mv (some 1) (.t 5))⟩,
      ⟨none, (some 37), (.conv none true (.t 36))⟩,
      ⟨none, (some 38), (.call [none] none 0 10 [(.t 37)])⟩,
      ⟨none, (some 35), (.mv none (.t 38))⟩,
      ⟨none, (some 39), (.ext (.t 35) 0)⟩,
      ⟨none, (some 40), (.ext (.t 35) 1)⟩,
      ⟨none, (some 8), (.alloc [(.int .i64 0), (.int .i64 0)])⟩,
      ⟨none, (some 7), (.mvS (some 3) (.t 39))⟩,
      ⟨none, none, (.store 2 none (.t 8) (.t 40))⟩])
  (.seq (.reg (.mk [0, 1, 7, 8, 9, 10, 11] [(.loc 8)] []) [⟨none, (some 42), (.mv (some 1) (.t 5))⟩,
      ⟨none, (some 43), (.conv none true (.t 42))⟩,
      ⟨none, (some 44), (.call [none] none 0 11 [(.t 43)])⟩,
      ⟨none, (some 41), (.mv none (.t 44))⟩,
      ⟨none, (some 45), (.ext (.t 41) 0)⟩,
      ⟨none, (some 46), (.ext (.t 41) 1)⟩,
      ⟨none, (some 47), (.ext (.t 41) 2)⟩,
      ⟨none, (some 9), (.mvS (some 3) (.t 45))⟩,
      ⟨none, (some 10), (.mvS none (.t 46))⟩,
      ⟨none, (some 11), (.mvS none (.t 47))⟩])
  (.seq (.reg (.mk [0, 1, 7, 8, 9, 10, 11, 12] [(.loc 8)] []) [⟨none, (some 12), (.mvS none (.v (.int .i64 65536)))⟩])
  (.seq (.seq (.reg (.mk [1, 7, 8, 9, 10, 11, 12, 50] [(.loc 8)] []) [⟨none, (some 48), (.mv none (.t 0))⟩,
      ⟨none, (some 49), (.mx (.t 48) (.v (.int .i64 0)))⟩,
      ⟨none, (some 50), (.mn (.t 49) (.v (.int .i64 2)))⟩])
  (.block 2 (.seq (.reg (.mk [1, 7, 8, 9, 10, 11, 12, 50, 51] [(.loc 8)] []) [⟨none, (some 52), (.bin [] .eql (.t 50) (.v (.int .i64 0)))⟩,
      ⟨none, (some 51), (.mvS none (.t 52))⟩])
  (.cond (.t 51) (.reg (.mk [1, 7, 8, 9, 10, 11, 12] [(.loc 8)] []) [⟨none, (some 12), (.mvS none (.v (.int .i64 40)))⟩]) (.seq (.reg (.mk [1, 7, 8, 9, 10, 11, 12, 53] [(.loc 8)] []) [⟨none, (some 54), (.bin [] .eql (.t 50) (.v (.int .i64 1)))⟩,
      ⟨none, (some 53), (.mvS none (.t 54))⟩])
  (.cond (.t 53) (.reg (.mk [1, 7, 8, 9, 10, 11, 12] [(.loc 8)] []) [⟨none, (some 12), (.mvS none (.v (.int .i64 300)))⟩]) .skip))))))
  (.seq (.reg (.mk [4] [] []) [⟨none, (some 55), (.mv (some 3) (.t 7))⟩,
      ⟨none, (some 56), (.mv (some 3) (.t 9))⟩,
      ⟨none, (some 57), (.call [(some 3), (some 3)] none 0 12 [(.t 55), (.t 56)])⟩,
      ⟨none, (some 58), (.mv none (.t 57))⟩,
      ⟨(some (58, true)), (some 59), (.fa 0 (.t 8))⟩,
      ⟨(some (58, true)), (some 60), (.load none false (.t 59))⟩,
      ⟨(some (58, true)), (some 61), (.mv none (.t 10))⟩,
      ⟨(some (58, true)), (some 62), (.bin [] .eql (.t 60) (.t 61))⟩,
      ⟨none, (some 63), (.pick (.t 58) (.t 62) (.v (.bool false)))⟩,
      ⟨none, (some 64), (.mv none (.t 63))⟩,
      ⟨(some (64, true)), (some 65), (.fa 1 (.t 8))⟩,
      ⟨(some (64, true)), (some 66), (.load none false (.t 65))⟩,
      ⟨(some (64, true)), (some 67), (.mv none (.t 11))⟩,
      ⟨(some (64, true)), (some 68), (.bin [] .eql (.t 66) (.t 67))⟩,
      ⟨none, (some 69), (.pick (.t 64) (.t 68) (.v (.bool false)))⟩,
      ⟨none, (some 70), (.mv none (.t 69))⟩,
      ⟨(some (70, true)), (some 71), (.fa 0 (.t 8))⟩,
      ⟨(some (70, true)), (some 72), (.load none false (.t 71))⟩,
      ⟨(some (70, true)), (some 73), (.bin [] .eql (.t 72) (.v (.int .i64 0)))⟩,
      ⟨(some (70, true)), (some 74), (.mv none (.t 1))⟩,
      ⟨(some (70, true)), (some 75), (.mv none (.t 12))⟩,
      ⟨(some (70, true)), (some 76), (.bin [] .leq (.t 74) (.t 75))⟩,
      ⟨(some (70, true)), (some 77), (.bin [1] .eql (.t 73) (.t 76))⟩,
      ⟨none, (some 78), (.pick (.t 70) (.t 77) (.v (.bool false)))⟩,
      ⟨none, (some 4), (.mvS none (.t 78))⟩])
  .ret))))))))))
theorem k6 {B : Heap} {args : List V} {objs : List Ob} {r : V} {objs' news : List Ob} (h : acwp (CallOk Try.prog B) c6 (initSt args objs) (EndA (tabT tab) [.tmp 4] objs.length (mvOf args objs) [] r objs' news)) (hn : args.length ≤ Try.f6.ntmps := by exact Nat.le_of_ble_eq_true rfl) (hlen : objs'.length = objs.length := by rfl) : Ok B 6 args objs r objs' news :=
  callOkB tabOk mixed Try.func6 Try.call6 (hints [] [([0, 1], []), ([], []), ([0, 1, 14], []), ([], []), ([4], []), ([], []), ([0, 1, 20], []), ([], []), ([4], []), ([], []), ([0, 1, 5], [.loc 22]), ([], []), ([0, 1, 5, 6], [.loc 22]), ([], []), ([0, 1, 5, 6, 25], [.loc 22]), ([0, 1, 5, 6], [.loc 22]), ([0, 1, 5, 6], [.loc 22]), ([], []), ([0, 1, 5, 6], [.loc 22]), ([], []), ([0, 1, 5, 7, 8], [.loc 8, .loc 22]), ([], []), ([0, 1, 7, 8, 9, 10, 11], [.loc 8]), ([], []), ([0, 1, 7, 8, 9, 10, 11, 12], [.loc 8]), ([], []), ([1, 7, 8, 9, 10, 11, 12, 50], [.loc 8]), ([], []), ([1, 7, 8, 9, 10, 11, 12, 50, 51], [.loc 8]), ([], []), ([1, 7, 8, 9, 10, 11, 12], [.loc 8]), ([], []), ([1, 7, 8, 9, 10, 11, 12, 53], [.loc 8]), ([], []), ([1, 7, 8, 9, 10, 11, 12], [.loc 8]), ([], []), ([4], []), ([], [])]) ⟨[4], [], [], []⟩ (by kernel_rfl) rfl rfl (by decide) hn hlen h
def c7 : AC :=
  (.seq (.reg (.mk [0, 1] [] []) [⟨none, (some 4), (.mvS none (.v (.bool false)))⟩])
  (.seq (.seq (.reg (.mk [0, 1, 11] [] []) [⟨none, (some 10), (.call [] none 0 9 [])⟩,
      ⟨none, (some 11), (.un .not (.t 10))⟩])
  (.cond (.t 11) (.seq (.reg (.mk [4] [] []) [⟨none, (some 4), (.mvS none (.v (.bool false)))⟩])
  .ret) .skip))
  (.seq (.reg (.mk [0, 1, 5, 6] [(.loc 6)] []) [⟨none, (some 13), (.mv none (.t 0))⟩,
      ⟨none, (some 14), (.call [none] none 0 10 [(.t 13)])⟩,
      ⟨none, (some 12), (.mv none (.t 14))⟩,
      ⟨none, (some 15), (.ext (.t 12) 0)⟩,
      ⟨none, (some 16), (.ext (.t 12) 1)⟩,
      ⟨none, (some 6), (.alloc [(.int .i64 0), (.int .i64 0)])⟩,
      ⟨none, (some 5), (.mvS (some 3) (.t 15))⟩,
      ⟨none, none, (.store 2 none (.t 6) (.t 16))⟩])
  (.seq (.seq (.reg (.mk [0, 1, 5, 29] [] []) [⟨none, (some 17), (.fa 0 (.t 6))⟩,
      ⟨none, (some 18), (.load none false (.t 17))⟩,
      ⟨none, (some 19), (.bin [] .neq (.t 18) (.v (.int .i64 0)))⟩,
      ⟨none, (some 20), (.mv none (.t 19))⟩,
      ⟨(some (20, false)), (some 21), (.mv none (.t 1))⟩,
      ⟨(some (20, false)), (some 22), (.bin [] .lss (.t 21) (.v (.int .i64 0)))⟩,
      ⟨none, (some 23), (.pick (.t 20) (.v (.bool true)) (.t 22))⟩,
      ⟨none, (some 24), (.mv none (.t 23))⟩,
      ⟨(some (24, false)), (some 25), (.mv none (.t 1))⟩,
      ⟨(some (24, false)), (some 26), (.mv (some 3) (.t 5))⟩,
      ⟨(some (24, false)), (some 27), (.lenSl (.t 26))⟩,
      ⟨(some (24, false)), (some 28), (.bin [] .geq (.t 25) (.t 27))⟩,
      ⟨none, (some 29), (.pick (.t 24) (.v (.bool true)) (.t 28))⟩])
  (.cond (.t 29) (.seq (.reg (.mk [4] [] []) [⟨none, (some 4), (.mvS none (.v (.bool true)))⟩])
  .ret) .skip))
  (.seq (.regD (.mk [1, 5, 7, 8] [(.loc 8)] []) [(0, 1), (0, 2), (1, 2), (0, 3), (0, 4), (0, 5), (0, 6), (1, 6), (2, 6), (3, 6), (4, 6), (5, 6), (0, 7), (1, 7), (2, 7), (3, 7), (4, 7), (5, 7), (6, 7), (0, 8), (1, 8), (2, 8), (3, 8), (4, 8), (5, 8), (0, 9), (1, 9), (2, 9), (3, 9), (4, 9), (5, 9), (0, 10), (1, 10), (2, 10), (3, 10), (4, 10), (5, 10), (0, 11), (1, 11), (2, 11), (3, 11), (4, 11), (5, 11), (0, 12), (16, 17), (0, 18), (1, 18), (2, 18), (3, 18), (4, 18), (5, 18), (6, 18), (7, 18), (8, 18), (9, 18), (10, 18), (11, 18), (12, 18), (13, 18), (14, 18), (15, 18), (16, 18), (17, 18), (17, 19)] [⟨none, (some 31), (.mv none (.t 0))⟩,
      ⟨none, (some 32), (.mv (some 3) (.t 5))⟩,
      ⟨none, (some 33), (.mv none (.t 1))⟩,
      ⟨none, (some 34), (.ia (some 3) none (.t 32) (.t 33))⟩,
      ⟨none, (some 35), (.fa 2 (.t 34))⟩,
      ⟨none, (some 36), (.load none false (.t 35))⟩,
      ⟨none, (some 37), (.mv (some 3) (.t 5))⟩,
      ⟨none, (some 38), (.mv none (.t 1))⟩,
      ⟨none, (some 39), (.ia (some 3) none (.t 37) (.t 38))⟩,
      ⟨none, (some 40), (.fa 1 (.t 39))⟩,
      ⟨none, (some 41), (.load none false (.t 40))⟩,
      ⟨none, (some 42), (.lenStr (.t 41))⟩,
      ⟨none, (some 43), (.bin [] .add (.t 36) (.t 42))⟩,
      ⟨none, (some 44), (.slc true none false (.t 31) none (some (.t 43)))⟩,
      ⟨none, (some 45), (.call [none] none 0 10 [(.t 44)])⟩,
      ⟨none, (some 30), (.mv none (.t 45))⟩,
      ⟨none, (some 46), (.ext (.t 30) 0)⟩,
      ⟨none, (some 47), (.ext (.t 30) 1)⟩,
      ⟨none, (some 8), (.alloc [(.int .i64 0), (.int .i64 0)])⟩,
      ⟨none, (some 7), (.mvS (some 3) (.t 46))⟩,
      ⟨none, none, (.store 2 none (.t 8) (.t 47))⟩])
  (.seq (.seq (.reg (.mk [1, 5, 7, 57] [] []) [⟨none, (some 48), (.fa 0 (.t 8))⟩,
      ⟨none, (some 49), (.load none false (.t 48))⟩,
      ⟨none, (some 50), (.bin [] .neq (.t 49) (.v (.int .i64 0)))⟩,
      ⟨none, (some 51), (.mv none (.t 50))⟩,
      ⟨(some (51, false)), (some 52), (.mv (some 3) (.t 7))⟩,
      ⟨(some (51, false)), (some 53), (.lenSl (.t 52))⟩,
      ⟨(some (51, false)), (some 54), (.mv none (.t 1))⟩,
      ⟨(some (51, false)), (some 55), (.bin [] .add (.t 54) (.v (.int .i64 1)))⟩,
      ⟨(some (51, false)), (some 56), (.bin [] .neq (.t 53) (.t 55))⟩,
      ⟨none, (some 57), (.pick (.t 51) (.v (.bool true)) (.t 56))⟩])
  (.cond (.t 57) (.seq (.reg (.mk [4] [] []) [⟨none, (some 4), (.mvS none (.v (.bool false)))⟩])
  .ret) .skip))
  (.seq (.seq (.reg (.mk [1, 5, 7, 9] [] []) [⟨none, (some 9), (.mvS none (.v (.int .i64 0)))⟩])
  (.block 0 (.loop (.mk [1, 5, 7, 9] [] []) (.seq (.seq (.reg (.mk [1, 5, 7, 9, 60] [] []) [⟨none, (some 58), (.mv none (.t 9))⟩,
      ⟨none, (some 59), (.mv none (.t 1))⟩,
      ⟨none, (some 60), (.bin [] .leq (.t 58) (.t 59))⟩])
  (.cond (.t 60) .skip (.exit 0)))
  (.seq (.block 1 (.seq (.regD (.mk [1, 5, 7, 9, 71] [] []) [(0, 1), (0, 4), (1, 4), (2, 4), (3, 4), (0, 5), (1, 5), (2, 5), (3, 5), (4, 5), (0, 6), (1, 6), (2, 6), (3, 6), (0, 7), (1, 7), (2, 7), (3, 7)] [⟨none, (some 63), (.mv (some 3) (.t 7))⟩,
      ⟨none, (some 64), (.mv none (.t 9))⟩,
      ⟨none, (some 65), (.ia (some 3) none (.t 63) (.t 64))⟩,
      ⟨none, (some 66), (.load (some 3) false (.t 65))⟩,
      ⟨none, (some 67), (.mv (some 3) (.t 5))⟩,
      ⟨none, (some 68), (.mv none (.t 9))⟩,
      ⟨none, (some 69), (.ia (some 3) none (.t 67) (.t 68))⟩,
      ⟨none, (some 70), (.load (some 3) false (.t 69))⟩,
      ⟨none, (some 71), (.bin [10, 2, 4, 2] .neq (.t 66) (.t 70))⟩])
  (.cond (.t 71) (.seq (.reg (.mk [4] [] []) [⟨none, (some 4), (.mvS none (.v (.bool false)))⟩])
  .ret) .skip)))
  (.reg (.mk [1, 5, 7, 9] [] []) [⟨none, (some 61), (.mv none (.t 9))⟩,
      ⟨none, (some 62), (.bin [] .add (.t 61) (.v (.int .i64 1)))⟩,
      ⟨none, (some 9), (.mvS none (.t 62))⟩]))))))
  (.seq (.reg (.mk [4] [] []) [⟨none, (some 4), (.mvS none (.v (.bool true)))⟩])
  .ret))))))))
theorem k7 {B : Heap} {args : List V} {objs : List Ob} {r : V} {objs' news : List Ob} (h : acwp (CallOk Try.prog B) c7 (initSt args objs) (EndA (tabT tab) [.tmp 4] objs.length (mvOf args objs) [] r objs' news)) (hn : args.length ≤ Try.f7.ntmps := by exact Nat.le_of_ble_eq_true rfl) (hlen : objs'.length = objs.length := by rfl) : Ok B 7 args objs r objs' news :=
  callOkB tabOk mixed Try.func7 Try.call7 (hints [] [([0, 1], []), ([], []), ([0, 1, 11], []), ([], []), ([4], []), ([], []), ([0, 1, 5, 6], [.loc 6]), ([], []), ([0, 1, 5, 29], []), ([], []), ([4], []), ([], []), ([1, 5, 7, 8], [.loc 8]), ([], []), ([1, 5, 7, 57], []), ([], []), ([4], []), ([], []), ([1, 5, 7, 9], []), ([], []), ([1, 5, 7, 9, 60], []), ([1, 5, 7, 9], []), ([1, 5, 7, 9], []), ([], []), ([1, 5, 7, 9, 71], []), ([], []), ([4], []), ([], []), ([4], []), ([], [])]) ⟨[4], [], [], []⟩ (by kernel_rfl) rfl rfl (by decide) hn hlen h
def c8 : AC :=
  (.seq (.reg (.mk [0] [] []) [⟨none, (some 2), (.mvS none (.v (.bool false)))⟩])
  (.seq (.seq (.reg (.mk [0, 13] [] []) [⟨none, (some 12), (.call [] none 0 9 [])⟩,
      ⟨none, (some 13), (.un .not (.t 12))⟩])
  (.cond (.t 13) (.seq (.reg (.mk [2] [] []) [⟨none, (some 2), (.mvS none (.v (.bool false)))⟩])
  .ret) .skip))
  (.seq (.reg (.mk [3, 4] [(.loc 4)] []) [⟨none, (some 15), (.mv none (.t 0))⟩,
      ⟨none, (some 16), (.call [none] none 0 10 [(.t 15)])⟩,
      ⟨none, (some 14), (.mv none (.t 16))⟩,
      ⟨none, (some 17), (.ext (.t 14) 0)⟩,
      ⟨none, (some 18), (.ext (.t 14) 1)⟩,
      ⟨none, (some 4), (.alloc [(.int .i64 0), (.int .i64 0)])⟩,
      ⟨none, (some 3), (.mvS (some 3) (.t 17))⟩,
      ⟨none, none, (.store 2 none (.t 4) (.t 18))⟩])
  (.seq (.seq (.reg (.mk [3, 21] [] []) [⟨none, (some 19), (.fa 0 (.t 4))⟩,
      ⟨none, (some 20), (.load none false (.t 19))⟩,
      ⟨none, (some 21), (.bin [] .neq (.t 20) (.v (.int .i64 0)))⟩])
  (.cond (.t 21) (.seq (.reg (.mk [2] [] []) [⟨none, (some 22), (.mv (some 3) (.t 3))⟩,
      ⟨none, (some 23), (.lenSl (.t 22))⟩,
      ⟨none, (some 24), (.bin [] .eql (.t 23) (.v (.int .i64 0)))⟩,
      ⟨none, (some 2), (.mvS none (.t 24))⟩])
  .ret) .skip))
  (.seq (.reg (.mk [3, 5] [] []) [⟨none, (some 5), (.mvS (some 1) (.v .nils))⟩])
  (.seq (.seq (.reg (.mk [3, 5, 6] [] []) [⟨none, (some 6), (.mvS none (.v (.int .i64 0)))⟩])
  (.block 0 (.loop (.mk [3, 5, 6] [] []) (.seq (.seq (.reg (.mk [3, 5, 6, 28] [] []) [⟨none, (some 25), (.mv none (.t 6))⟩,
      ⟨none, (some 26), (.mv (some 3) (.t 3))⟩,
      ⟨none, (some 27), (.lenSl (.t 26))⟩,
      ⟨none, (some 28), (.bin [] .lss (.t 25) (.t 27))⟩])
  (.cond (.t 28) .skip (.exit 0)))
  (.seq (.block 1 (.reg (.mk [3, 5, 6] [] []) [⟨none, (some 31), (.mvS (some 1) (.t 5))⟩,
      ⟨none, (some 32), (.mv (some 3) (.t 3))⟩,
      ⟨none, (some 33), (.mv none (.t 6))⟩,
      ⟨none, (some 34), (.ia (some 3) none (.t 32) (.t 33))⟩,
      ⟨none, (some 35), (.fa 1 (.t 34))⟩,
      ⟨none, (some 36), (.load none false (.t 35))⟩,
      ⟨none, (some 37), (.buildSl 1 [(.t 36)])⟩,
      ⟨none, (some 38), (.app 1 16 (.t 31) (.t 37))⟩,
      ⟨none, (some 5), (.mvS (some 1) (.t 38))⟩]))
  (.reg (.mk [3, 5, 6] [] []) [⟨none, (some 29), (.mv none (.t 6))⟩,
      ⟨none, (some 30), (.bin [] .add (.t 29) (.v (.int .i64 1)))⟩,
      ⟨none, (some 6), (.mvS none (.t 30))⟩]))))))
  (.seq (.reg (.mk [3, 7, 8] [] []) [⟨none, (some 40), (.mv (some 1) (.t 5))⟩,
      ⟨none, (some 41), (.call [(some 1)] none 0 17 [(.t 40)])⟩,
      ⟨none, (some 39), (.mv none (.t 41))⟩,
      ⟨none, (some 42), (.ext (.t 39) 0)⟩,
      ⟨none, (some 43), (.ext (.t 39) 1)⟩,
      ⟨none, (some 7), (.mvS none (.t 42))⟩,
      ⟨none, (some 8), (.mvS (some 1) (.t 43))⟩])
  (.seq (.seq (.reg (.mk [3, 7, 8, 48] [] []) [⟨none, (some 44), (.mv (some 1) (.t 8))⟩,
      ⟨none, (some 45), (.lenSl (.t 44))⟩,
      ⟨none, (some 46), (.mv (some 3) (.t 3))⟩,
      ⟨none, (some 47), (.lenSl (.t 46))⟩,
      ⟨none, (some 48), (.bin [] .neq (.t 45) (.t 47))⟩])
  (.cond (.t 48) (.seq (.reg (.mk [2] [] []) [⟨none, (some 2), (.mvS none (.v (.bool false)))⟩])
  .ret) .skip))
  (.seq (.seq (.reg (.mk [3, 7, 8, 51] [] []) [⟨none, (some 49), (.mv none (.t 7))⟩,
      ⟨none, (some 50), (.lenStr (.t 49))⟩,
      ⟨none, (some 51), (.bin [] .gtr (.t 50) (.v (.int .i64 65536)))⟩])
  (.cond (.t 51) (.seq (.reg (.mk [2] [] []) [⟨none, (some 2), (.mvS none (.v (.bool true)))⟩])
  .ret) .skip))
  (.seq (.reg (.mk [3, 8, 9, 10] [(.loc 10)] []) [⟨none, (some 53), (.mv none (.t 7))⟩,
      ⟨none, (some 54), (.call [none] none 0 10 [(.t 53)])⟩,
      ⟨none, (some 52), (.mv none (.t 54))⟩,
      ⟨none, (some 55), (.ext (.t 52) 0)⟩,
      ⟨none, (some 56), (.ext (.t 52) 1)⟩,
      ⟨none, (some 10), (.alloc [(.int .i64 0), (.int .i64 0)])⟩,
      ⟨none, (some 9), (.mvS (some 3) (.t 55))⟩,
      ⟨none, none, (.store 2 none (.t 10) (.t 56))⟩])
  (.seq (.seq (.reg (.mk [3, 8, 9, 66] [] []) [⟨none, (some 57), (.fa 0 (.t 10))⟩,
      ⟨none, (some 58), (.load none false (.t 57))⟩,
      ⟨none, (some 59), (.bin [] .neq (.t 58) (.v (.int .i64 0)))⟩,
      ⟨none, (some 60), (.mv none (.t 59))⟩,
      ⟨(some (60, false)), (some 61), (.mv (some 3) (.t 9))⟩,
      ⟨(some (60, false)), (some 62), (.lenSl (.t 61))⟩,
      ⟨(some (60, false)), (some 63), (.mv (some 3) (.t 3))⟩,
      ⟨(some (60, false)), (some 64), (.lenSl (.t 63))⟩,
      ⟨(some (60, false)), (some 65), (.bin [] .neq (.t 62) (.t 64))⟩,
      ⟨none, (some 66), (.pick (.t 60) (.v (.bool true)) (.t 65))⟩])
  (.cond (.t 66) (.seq (.reg (.mk [2] [] []) [⟨none, (some 2), (.mvS none (.v (.bool false)))⟩])
  .ret) .skip))
  (.seq (.seq (.reg (.mk [3, 8, 9, 11] [] []) [⟨none, (some 11), (.mvS none (.v (.int .i64 0)))⟩])
  (.block 2 (.loop (.mk [3, 8, 9, 11] [] []) (.seq (.seq (.reg (.mk [3, 8, 9, 11, 70] [] []) [⟨none, (some 67), (.mv none (.t 11))⟩,
      ⟨none, (some 68), (.mv (some 3) (.t 9))⟩,
      ⟨none, (some 69), (.lenSl (.t 68))⟩,
      ⟨none, (some 70), (.bin [] .lss (.t 67) (.t 69))⟩])
  (.cond (.t 70) .skip (.exit 2)))
  (.seq (.block 3 (.seq (.regD (.mk [3, 8, 9, 11, 108] [] []) [(0, 1), (0, 5), (1, 5), (2, 5), (3, 5), (4, 5), (0, 6), (1, 6), (2, 6), (3, 6), (4, 6), (5, 6), (0, 7), (1, 7), (2, 7), (3, 7), (4, 7), (0, 8), (1, 8), (2, 8), (3, 8), (4, 8), (0, 9), (1, 9), (2, 9), (3, 9), (4, 9), (12, 13), (12, 17), (13, 17), (14, 17), (15, 17), (16, 17), (12, 18), (13, 18), (14, 18), (15, 18), (16, 18), (17, 18), (12, 19), (13, 19), (14, 19), (15, 19), (16, 19), (12, 20), (13, 20), (14, 20), (15, 20), (16, 20), (12, 21), (13, 21), (14, 21), (15, 21), (16, 21), (25, 26), (25, 30), (26, 30), (27, 30), (28, 30), (29, 30), (25, 31), (26, 31), (27, 31), (28, 31), (29, 31), (30, 31), (25, 32), (26, 32), (27, 32), (28, 32), (29, 32), (25, 33), (26, 33), (27, 33), (28, 33), (29, 33)] [⟨none, (some 73), (.mv (some 3) (.t 9))⟩,
      ⟨none, (some 74), (.mv none (.t 11))⟩,
      ⟨none, (some 75), (.ia (some 3) none (.t 73) (.t 74))⟩,
      ⟨none, (some 76), (.fa 0 (.t 75))⟩,
      ⟨none, (some 77), (.load none false (.t 76))⟩,
      ⟨none, (some 78), (.mv (some 3) (.t 3))⟩,
      ⟨none, (some 79), (.mv none (.t 11))⟩,
      ⟨none, (some 80), (.ia (some 3) none (.t 78) (.t 79))⟩,
      ⟨none, (some 81), (.fa 0 (.t 80))⟩,
      ⟨none, (some 82), (.load none false (.t 81))⟩,
      ⟨none, (some 83), (.bin [] .neq (.t 77) (.t 82))⟩,
      ⟨none, (some 84), (.mv none (.t 83))⟩,
      ⟨(some (84, false)), (some 85), (.mv (some 3) (.t 9))⟩,
      ⟨(some (84, false)), (some 86), (.mv none (.t 11))⟩,
      ⟨(some (84, false)), (some 87), (.ia (some 3) none (.t 85) (.t 86))⟩,
      ⟨(some (84, false)), (some 88), (.fa 1 (.t 87))⟩,
      ⟨(some (84, false)), (some 89), (.load none false (.t 88))⟩,
      ⟨(some (84, false)), (some 90), (.mv (some 3) (.t 3))⟩,
      ⟨(some (84, false)), (some 91), (.mv none (.t 11))⟩,
      ⟨(some (84, false)), (some 92), (.ia (some 3) none (.t 90) (.t 91))⟩,
      ⟨(some (84, false)), (some 93), (.fa 1 (.t 92))⟩,
      ⟨(some (84, false)), (some 94), (.load none false (.t 93))⟩,
      ⟨(some (84, false)), (some 95), (.bin [] .neq (.t 89) (.t 94))⟩,
      ⟨none, (some 96), (.pick (.t 84) (.v (.bool true)) (.t 95))⟩,
      ⟨none, (some 97), (.mv none (.t 96))⟩,
      ⟨(some (97, false)), (some 98), (.mv (some 3) (.t 9))⟩,
      ⟨(some (97, false)), (some 99), (.mv none (.t 11))⟩,
      ⟨(some (97, false)), (some 100), (.ia (some 3) none (.t 98) (.t 99))⟩,
      ⟨(some (97, false)), (some 101), (.fa 2 (.t 100))⟩,
      ⟨(some (97, false)), (some 102), (.load none false (.t 101))⟩,
      ⟨(some (97, false)), (some 103), (.mv (some 1) (.t 8))⟩,
      ⟨(some (97, false)), (some 104), (.mv none (.t 11))⟩,
      ⟨(some (97, false)), (some 105), (.ia (some 1) none (.t 103) (.t 104))⟩,
      ⟨(some (97, false)), (some 106), (.load none false (.t 105))⟩,
      ⟨(some (97, false)), (some 107), (.bin [] .neq (.t 102) (.t 106))⟩,
      ⟨none, (some 108), (.pick (.t 97) (.v (.bool true)) (.t 107))⟩])
  (.cond (.t 108) (.seq (.reg (.mk [2] [] []) [⟨none, (some 2), (.mvS none (.v (.bool false)))⟩])
  .ret) .skip)))
  (.reg (.mk [3, 8, 9, 11] [] []) [⟨none, (some 71), (.mv none (.t 11))⟩,
      ⟨none, (some 72), (.bin [] .add (.t 71) (.v (.int .i64 1)))⟩,
      ⟨none, (some 11), (.mvS none (.t 72))⟩]))))))
  (.seq (.reg (.mk [2] [] []) [⟨none, (some 2), (.mvS none (.v (.bool true)))⟩])
  .ret)))))))))))))
theorem k8 {B : Heap} {args : List V} {objs : List Ob} {r : V} {objs' news : List Ob} (h : acwp (CallOk Try.prog B) c8 (initSt args objs) (EndA (tabT tab) [.tmp 2] objs.length (mvOf args objs) [] r objs' news)) (hn : args.length ≤ Try.f8.ntmps := by exact Nat.le_of_ble_eq_true rfl) (hlen : objs'.length = objs.length := by rfl) : Ok B 8 args objs r objs' news :=
  callOkB tabOk mixed Try.func8 Try.call8 (hints [] [([0], []), ([], []), ([0, 13], []), ([], []), ([2], []), ([], []), ([3, 4], [.loc 4]), ([], []), ([3, 21], []), ([], []), ([2], []), ([], []), ([3, 5], []), ([], []), ([3, 5, 6], []), ([], []), ([3, 5, 6, 28], []), ([3, 5, 6], []), ([3, 5, 6], []), ([], []), ([3, 5, 6], []), ([], []), ([3, 7, 8], []), ([], []), ([3, 7, 8, 48], []), ([], []), ([2], []), ([], []), ([3, 7, 8, 51], []), ([], []), ([2], []), ([], []), ([3, 8, 9, 10], [.loc 10]), ([], []), ([3, 8, 9, 66], []), ([], []), ([2], []), ([], []), ([3, 8, 9, 11], []), ([], []), ([3, 8, 9, 11, 70], []), ([3, 8, 9, 11], []), ([3, 8, 9, 11], []), ([], []), ([3, 8, 9, 11, 108], []), ([], []), ([2], []), ([], []), ([2], []), ([], [])]) ⟨[2], [], [], []⟩ (by kernel_rfl) rfl rfl (by decide) hn hlen h
def c9 : AC :=
  (.seq (.reg (.mk [] [] []) [⟨none, (some 0), (.mvS none (.v (.bool false)))⟩])
  (.seq (.reg (.mk [1, 2] [(.loc 2)] []) [⟨none, (some 4), (.call [none] none 0 10 [(.v (.str [97, 60, 61, 49, 48]))])⟩,
      ⟨none, (some 3), (.mv none (.t 4))⟩,
      ⟨none, (some 5), (.ext (.t 3) 0)⟩,
      ⟨none, (some 6), (.ext (.t 3) 1)⟩,
      ⟨none, (some 2), (.alloc [(.int .i64 0), (.int .i64 0)])⟩,
      ⟨none, (some 1), (.mvS (some 3) (.t 5))⟩,
      ⟨none, none, (.store 2 none (.t 2) (.t 6))⟩])
  (.seq (.reg (.mk [0] [] []) [⟨none, (some 7), (.fa 0 (.t 2))⟩,
      ⟨none, (some 8), (.load none false (.t 7))⟩,
      ⟨none, (some 9), (.bin [] .eql (.t 8) (.v (.int .i64 0)))⟩,
      ⟨none, (some 10), (.mv none (.t 9))⟩,
      ⟨(some (10, true)), (some 11), (.mv (some 3) (.t 1))⟩,
      ⟨(some (10, true)), (some 12), (.lenSl (.t 11))⟩,
      ⟨(some (10, true)), (some 13), (.bin [] .eql (.t 12) (.v (.int .i64 3)))⟩,
      ⟨none, (some 14), (.pick (.t 10) (.t 13) (.v (.bool false)))⟩,
      ⟨none, (some 15), (.mv none (.t 14))⟩,
      ⟨(some (15, true)), (some 16), (.mv (some 3) (.t 1))⟩,
      ⟨(some (15, true)), (some 17), (.ia (some 3) none (.t 16) (.v (.int .i64 0)))⟩,
      ⟨(some (15, true)), (some 18), (.fa 1 (.t 17))⟩,
      ⟨(some (15, true)), (some 19), (.load none false (.t 18))⟩,
      ⟨(some (15, true)), (some 20), (.bin [] .eql (.t 19) (.v (.str [97])))⟩,
      ⟨none, (some 21), (.pick (.t 15) (.t 20) (.v (.bool false)))⟩,
      ⟨none, (some 22), (.mv none (.t 21))⟩,
      ⟨(some (22, true)), (some 23), (.mv (some 3) (.t 1))⟩,
      ⟨(some (22, true)), (some 24), (.ia (some 3) none (.t 23) (.v (.int .i64 1)))⟩,
      ⟨(some (22, true)), (some 25), (.fa 1 (.t 24))⟩,
      ⟨(some (22, true)), (some 26), (.load none false (.t 25))⟩,
      ⟨(some (22, true)), (some 27), (.bin [] .eql (.t 26) (.v (.str [60, 61])))⟩,
      ⟨none, (some 28), (.pick (.t 22) (.t 27) (.v (.bool false)))⟩,
      ⟨none, (some 29), (.mv none (.t 28))⟩,
      ⟨(some (29, true)), (some 30), (.mv (some 3) (.t 1))⟩,
      ⟨(some (29, true)), (some 31), (.ia (some 3) none (.t 30) (.v (.int .i64 2)))⟩,
      ⟨(some (29, true)), (some 32), (.fa 0 (.t 31))⟩,
      ⟨(some (29, true)), (some 33), (.load none false (.t 32))⟩,
      ⟨(some (29, true)), (some 34), (.bin [] .eql (.t 33) (.v (.int .i64 2)))⟩,
      ⟨none, (some 35), (.pick (.t 29) (.t 34) (.v (.bool false)))⟩,
      ⟨none, (some 36), (.mv none (.t 35))⟩,
      ⟨(some (36, true)), (some 37), (.mv (some 3) (.t 1))⟩,
      ⟨(some (36, true)), (some 38), (.ia (some 3) none (.t 37) (.v (.int .i64 2)))⟩,
      ⟨(some (36, true)), (some 39), (.fa 2 (.t 38))⟩,
      ⟨(some (36, true)), (some 40), (.load none false (.t 39))⟩,
      ⟨(some (36, true)), (some 41), (.bin [] .eql (.t 40) (.v (.int .i64 3)))⟩,
      ⟨none, (some 42), (.pick (.t 36) (.t 41) (.v (.bool false)))⟩,
      ⟨none, (some 43), (.mv none (.t 42))⟩,
      ⟨(some (43, true)), (some 44), (.call [none] none 0 13 [(.v (.str [99, 108, 97, 115, 115]))])⟩,
      ⟨none, (some 45), (.pick (.t 43) (.t 44) (.v (.bool false)))⟩,
      ⟨none, (some 46), (.mv none (.t 45))⟩,
      ⟨(some (46, true)), (some 47), (.call [none] none 0 15 [(.v (.str [97]))])⟩,
      ⟨none, (some 48), (.pick (.t 46) (.t 47) (.v (.bool false)))⟩,
      ⟨none, (some 49), (.mv none (.t 48))⟩,
      ⟨none, (some 50), (.pick (.t 49) (.v (.bool true)) (.v (.bool false)))⟩,
      ⟨none, (some 0), (.mvS none (.t 50))⟩])
  .ret)))
theorem k9 {B : Heap} {args : List V} {objs : List Ob} {r : V} {objs' news : List Ob} (h : acwp (CallOk Try.prog B) c9 (initSt args objs) (EndA (tabT tab) [.tmp 0] objs.length (mvOf args objs) [] r objs' news)) (hn : args.length ≤ Try.f9.ntmps := by exact Nat.le_of_ble_eq_true rfl) (hlen : objs'.length = objs.length := by rfl) : Ok B 9 args objs r objs' news :=
  callOkB tabOk mixed Try.func9 Try.call9 (hints [] [([], []), ([], []), ([1, 2], [.loc 2]), ([], []), ([0], []), ([], [])]) ⟨[0], [], [], []⟩ (by kernel_rfl) rfl rfl (by decide) hn hlen h
def c10 : AC :=
  (.seq (.reg (.mk [0, 3] [(.loc 3)] []) [⟨none, (some 2), (.mvS (some 3) (.v .nils))⟩,
      ⟨none, (some 3), (.alloc [(.int .i64 0), (.int .i64 0)])⟩])
  (.seq (.seq (.reg (.mk [0, 3, 12] [(.loc 3)] []) [⟨none, (some 10), (.mv none (.t 0))⟩,
      ⟨none, (some 11), (.lenStr (.t 10))⟩,
      ⟨none, (some 12), (.bin [] .gtr (.t 11) (.v (.int .i64 65536)))⟩])
  (.cond (.t 12) (.seq (.reg (.mk [2, 3] [(.loc 3)] []) [⟨none, (some 13), (.build [(0, 1), (1, 1)] [(.int .i64 0), (.int .i64 0)] [0, 1] [(.v (.int .i64 2)), (.v (.int .i64 65536))])⟩,
      ⟨none, (some 2), (.mvS (some 3) (.v .nils))⟩,
      ⟨none, none, (.store 2 none (.t 3) (.t 13))⟩])
  .ret) .skip))
  (.seq (.reg (.mk [0, 3, 4] [(.loc 3)] []) [⟨none, (some 4), (.mvS (some 3) (.v .nils))⟩])
  (.seq (.seq (.reg (.mk [0, 3, 4, 5] [(.loc 3)] []) [⟨none, (some 5), (.mvS none (.v (.int .i64 0)))⟩])
  (.block 0 (.loop (.mk [0, 3, 4, 5] [(.loc 3)] []) (.seq (.seq (.reg (.mk [0, 3, 4, 5, 17] [(.loc 3)] []) [⟨none, (some 14), (.mv none (.t 5))⟩,
      ⟨none, (some 15), (.mv none (.t 0))⟩,
      ⟨none, (some 16), (.lenStr (.t 15))⟩,
      ⟨none, (some 17), (.bin [] .lss (.t 14) (.t 16))⟩])
  (.cond (.t 17) .skip (.exit 0)))
  (.block 1 (.seq (.reg (.mk [0, 3, 4, 5, 6] [(.loc 3)] []) [⟨none, (some 18), (.mv none (.t 0))⟩,
      ⟨none, (some 19), (.mv none (.t 5))⟩,
      ⟨none, (some 20), (.ix (.t 18) (.t 19))⟩,
      ⟨none, (some 6), (.mvS none (.t 20))⟩])
  (.seq (.block 2 (.seq (.reg (.mk [0, 3, 4, 5, 21] [(.loc 3)] []) [⟨none, (some 22), (.mv none (.t 6))⟩,
      ⟨none, (some 23), (.bin [] .eql (.t 22) (.v (.int .u8 32)))⟩,
      ⟨none, (some 24), (.mv none (.t 23))⟩,
      ⟨(some (24, false)), (some 25), (.mv none (.t 6))⟩,
      ⟨(some (24, false)), (some 26), (.bin [] .eql (.t 25) (.v (.int .u8 9)))⟩,
      ⟨none, (some 27), (.pick (.t 24) (.v (.bool true)) (.t 26))⟩,
      ⟨none, (some 28), (.mv none (.t 27))⟩,
      ⟨(some (28, false)), (some 29), (.mv none (.t 6))⟩,
      ⟨(some (28, false)), (some 30), (.bin [] .eql (.t 29) (.v (.int .u8 10)))⟩,
      ⟨none, (some 31), (.pick (.t 28) (.v (.bool true)) (.t 30))⟩,
      ⟨none, (some 32), (.mv none (.t 31))⟩,
      ⟨(some (32, false)), (some 33), (.mv none (.t 6))⟩,
      ⟨(some (32, false)), (some 34), (.bin [] .eql (.t 33) (.v (.int .u8 13)))⟩,
      ⟨none, (some 35), (.pick (.t 32) (.v (.bool true)) (.t 34))⟩,
      ⟨none, (some 21), (.mvS none (.t 35))⟩])
  (.cond (.t 21) (.seq (.reg (.mk [0, 3, 4, 5] [(.loc 3)] []) [⟨none, (some 36), (.mv none (.t 5))⟩,
      ⟨none, (some 37), (.bin [] .add (.t 36) (.v (.int .i64 1)))⟩,
      ⟨none, (some 5), (.mvS none (.t 37))⟩])
  (.exit 1)) (.seq (.reg (.mk [0, 3, 4, 5, 38] [(.loc 3)] []) [⟨none, (some 39), (.mv none (.t 0))⟩,
      ⟨none, (some 40), (.mv none (.t 5))⟩,
      ⟨none, (some 41), (.slc true none false (.t 39) (some (.t 40)) none)⟩,
      ⟨none, (some 42), (.call [none, none] none 0 18 [(.t 41), (.v (.str [47, 47]))])⟩,
      ⟨none, (some 38), (.mvS none (.t 42))⟩])
  (.cond (.t 38) (.seq (.reg (.mk [0, 3, 4, 5] [(.loc 3)] []) [⟨none, (some 43), (.mv none (.t 0))⟩,
      ⟨none, (some 44), (.mv none (.t 5))⟩,
      ⟨none, (some 45), (.call [none, none, none] none 0 19 [(.t 43), (.t 44), (.v (.fn 20))])⟩,
      ⟨none, (some 5), (.mvS none (.t 45))⟩])
  (.exit 1)) .skip)))))
  (.seq (.reg (.mk [0, 3, 4, 5, 7, 8, 9] [(.loc 3), (.loc 7)] []) [⟨none, (some 47), (.mv none (.t 0))⟩,
      ⟨none, (some 48), (.mv none (.t 5))⟩,
      ⟨none, (some 49), (.call [none, none] none 0 21 [(.t 47), (.t 48)])⟩,
      ⟨none, (some 46), (.mv none (.t 49))⟩,
      ⟨none, (some 50), (.ext (.t 46) 0)⟩,
      ⟨none, (some 51), (.ext (.t 46) 1)⟩,
      ⟨none, (some 52), (.ext (.t 46) 2)⟩,
      ⟨none, (some 7), (.alloc [(.int .i64 0), (.str []), (.int .i64 0)])⟩,
      ⟨none, none, (.store 3 none (.t 7) (.t 50))⟩,
      ⟨none, (some 8), (.mvS none (.t 51))⟩,
      ⟨none, (some 9), (.mvS none (.t 52))⟩])
  (.seq (.seq (.reg (.mk [0, 3, 4, 5, 7, 8, 9, 54] [(.loc 3), (.loc 7)] []) [⟨none, (some 53), (.mv none (.t 8))⟩,
      ⟨none, (some 54), (.bin [] .neq (.t 53) (.v (.int .i64 0)))⟩])
  (.cond (.t 54) (.seq (.reg (.mk [2, 3] [(.loc 3)] []) [⟨none, (some 55), (.mv none (.t 8))⟩,
      ⟨none, (some 56), (.mv none (.t 9))⟩,
      ⟨none, (some 57), (.build [(0, 1), (1, 1)] [(.int .i64 0), (.int .i64 0)] [0, 1] [(.t 55), (.t 56)])⟩,
      ⟨none, (some 2), (.mvS (some 3) (.v .nils))⟩,
      ⟨none, none, (.store 2 none (.t 3) (.t 57))⟩])
  .ret) .skip))
  (.seq (.reg (.mk [0, 3, 4, 5, 7] [(.loc 3), (.loc 7)] []) [⟨none, (some 58), (.mvS (some 3) (.t 4))⟩,
      ⟨none, (some 59), (.load (some 3) false (.t 7))⟩,
      ⟨none, (some 60), (.buildSl 3 [(.t 59)])⟩,
      ⟨none, (some 61), (.app 3 32 (.t 58) (.t 60))⟩,
      ⟨none, (some 4), (.mvS (some 3) (.t 61))⟩])
  (.reg (.mk [0, 3, 4, 5] [(.loc 3)] []) [⟨none, (some 62), (.mv none (.t 5))⟩,
      ⟨none, (some 63), (.fa 1 (.t 7))⟩,
      ⟨none, (some 64), (.load none false (.t 63))⟩,
      ⟨none, (some 65), (.lenStr (.t 64))⟩,
      ⟨none, (some 66), (.bin [] .add (.t 62) (.t 65))⟩,
      ⟨none, (some 5), (.mvS none (.t 66))⟩])))))))))))
  (.seq (.reg (.mk [2, 3] [(.loc 3)] []) [⟨none, (some 67), (.mvS (some 3) (.t 4))⟩,
      ⟨none, (some 68), (.build [(0, 1), (1, 1)] [(.int .i64 0), (.int .i64 0)] [] [])⟩,
      ⟨none, (some 2), (.mvS (some 3) (.t 67))⟩,
      ⟨none, none, (.store 2 none (.t 3) (.t 68))⟩])
  .ret)))))
theorem k10 {B : Heap} {args : List V} {objs : List Ob} {r : V} {objs' news : List Ob} (h : acwp (CallOk Try.prog B) c10 (initSt args objs) (EndA (tabT tab) [.tmp 2, .cell 3 26] objs.length (mvOf args objs) [] r objs' news)) (hn : args.length ≤ Try.f10.ntmps := by exact Nat.le_of_ble_eq_true rfl) (hlen : objs'.length = objs.length := by rfl) : Ok B 10 args objs r objs' news :=
  callOkB tabOk mixed Try.func10 Try.call10 (hints [] [([0, 3], [.loc 3]), ([], []), ([0, 3, 12], [.loc 3]), ([], []), ([2, 3], [.loc 3]), ([], []), ([0, 3, 4], [.loc 3]), ([], []), ([0, 3, 4, 5], [.loc 3]), ([], []), ([0, 3, 4, 5, 17], [.loc 3]), ([0, 3, 4, 5], [.loc 3]), ([0, 3, 4, 5, 6], [.loc 3]), ([], []), ([0, 3, 4, 5, 21], [.loc 3]), ([], []), ([0, 3, 4, 5], [.loc 3]), ([], []), ([0, 3, 4, 5, 38], [.loc 3]), ([], []), ([0, 3, 4, 5], [.loc 3]), ([], []), ([0, 3, 4, 5, 7, 8, 9], [.loc 3, .loc 7]), ([], []), ([0, 3, 4, 5, 7, 8, 9, 54], [.loc 3, .loc 7]), ([], []), ([2, 3], [.loc 3]), ([], []), ([0, 3, 4, 5, 7], [.loc 3, .loc 7]), ([], []), ([0, 3, 4, 5], [.loc 3]), ([], []), ([2, 3], [.loc 3]), ([], [])]) ⟨[2, 3], [], [], []⟩ (by kernel_rfl) rfl rfl (by decide) hn hlen h
def c11 : AC :=
  (.seq (.reg (.mk [0] [] []) [⟨none, (some 2), (.mvS (some 3) (.v .nils))⟩,
      ⟨none, (some 3), (.mvS none (.v (.int .i64 0)))⟩,
      ⟨none, (some 4), (.mvS none (.v (.int .i64 0)))⟩])
  (.seq (.seq (.reg (.mk [0, 12] [] []) [⟨none, (some 10), (.mv none (.t 0))⟩,
      ⟨none, (some 11), (.lenStr (.t 10))⟩,
      ⟨none, (some 12), (.bin [] .gtr (.t 11) (.v (.int .i64 65536)))⟩])
  (.cond (.t 12) (.seq (.reg (.mk [2, 3, 4] [] []) [⟨none, (some 2), (.mvS (some 3) (.v .nils))⟩,
      ⟨none, (some 3), (.mvS none (.v (.int .i64 2)))⟩,
      ⟨none, (some 4), (.mvS none (.v (.int .i64 65536)))⟩])
  .ret) .skip))
  (.seq (.reg (.mk [0, 5] [] []) [⟨none, (some 5), (.mvS (some 3) (.v .nils))⟩])
  (.seq (.seq (.reg (.mk [0, 5, 6] [] []) [⟨none, (some 13), (.mv none (.t 0))⟩,
      ⟨none, (some 14), (.call [none, none] none 0 22 [(.t 13), (.v (.int .i64 0))])⟩,
      ⟨none, (some 6), (.mvS none (.t 14))⟩])
  (.block 0 (.loop (.mk [0, 5, 6] [] []) (.seq (.seq (.reg (.mk [0, 5, 6, 18] [] []) [⟨none, (some 15), (.mv none (.t 6))⟩,
      ⟨none, (some 16), (.mv none (.t 0))⟩,
      ⟨none, (some 17), (.lenStr (.t 16))⟩,
      ⟨none, (some 18), (.bin [] .lss (.t 15) (.t 17))⟩])
  (.cond (.t 18) .skip (.exit 0)))
  (.seq (.block 1 (.seq (.reg (.mk [0, 5, 6, 7] [] []) [⟨none, (some 22), (.mv none (.t 0))⟩,
      ⟨none, (some 23), (.mv none (.t 6))⟩,
      ⟨none, (some 24), (.ix (.t 22) (.t 23))⟩,
      ⟨none, (some 25), (.call [none] none 0 23 [(.t 24)])⟩,
      ⟨none, (some 7), (.mvS none (.t 25))⟩])
  (.seq (.reg (.mk [0, 5, 6, 7, 8] [] []) [⟨none, (some 26), (.mv none (.t 0))⟩,
      ⟨none, (some 27), (.mv none (.t 6))⟩,
      ⟨none, (some 28), (.mv none (.t 7))⟩,
      ⟨none, (some 29), (.bin [] .eql (.t 28) (.v (.int .i64 1)))⟩,
      ⟨none, (some 30), (.call [none, none, none] none 0 24 [(.t 26), (.t 27), (.t 29)])⟩,
      ⟨none, (some 8), (.mvS none (.t 30))⟩])
  (.seq (.block 2 (.seq (.reg (.mk [0, 5, 6, 7, 8, 31] [] []) [⟨none, (some 32), (.mv none (.t 7))⟩,
      ⟨none, (some 33), (.bin [] .eql (.t 32) (.v (.int .i64 0)))⟩,
      ⟨none, (some 31), (.mvS none (.t 33))⟩])
  (.cond (.t 31) (.seq (.reg (.mk [0, 5, 6, 9] [] []) [⟨none, (some 34), (.mv none (.t 0))⟩,
      ⟨none, (some 35), (.mv none (.t 6))⟩,
      ⟨none, (some 36), (.call [none, none] none 0 25 [(.t 34), (.t 35)])⟩,
      ⟨none, (some 9), (.mvS none (.t 36))⟩])
  (.seq (.seq (.reg (.mk [0, 5, 6, 9, 38] [] []) [⟨none, (some 37), (.mv none (.t 9))⟩,
      ⟨none, (some 38), (.bin [] .eql (.t 37) (.v (.int .i64 0)))⟩])
  (.cond (.t 38) (.seq (.reg (.mk [2, 3, 4] [] []) [⟨none, (some 39), (.mvS none (.t 6))⟩,
      ⟨none, (some 2), (.mvS (some 3) (.v .nils))⟩,
      ⟨none, (some 3), (.mvS none (.v (.int .i64 100)))⟩,
      ⟨none, (some 4), (.mvS none (.t 39))⟩])
  .ret) .skip))
  (.seq (.reg (.mk [0, 5, 6, 8] [] []) [⟨none, (some 40), (.mv none (.t 6))⟩,
      ⟨none, (some 41), (.mv none (.t 9))⟩,
      ⟨none, (some 42), (.bin [] .add (.t 40) (.t 41))⟩,
      ⟨none, (some 8), (.mvS none (.t 42))⟩])
  (.reg (.mk [0, 5, 6, 7, 8] [] []) [⟨none, (some 7), (.mvS none (.v (.int .i64 3)))⟩])))) (.seq (.reg (.mk [0, 5, 6, 7, 8, 43] [] []) [⟨none, (some 44), (.mv none (.t 7))⟩,
      ⟨none, (some 45), (.bin [] .eql (.t 44) (.v (.int .i64 1)))⟩,
      ⟨none, (some 46), (.mv none (.t 45))⟩,
      ⟨(some (46, true)), (some 47), (.mv none (.t 8))⟩,
      ⟨(some (46, true)), (some 48), (.mv none (.t 6))⟩,
      ⟨(some (46, true)), (some 49), (.bin [] .sub (.t 47) (.t 48))⟩,
      ⟨(some (46, true)), (some 50), (.bin [] .gtr (.t 49) (.v (.int .i64 40)))⟩,
      ⟨none, (some 51), (.pick (.t 46) (.t 50) (.v (.bool false)))⟩,
      ⟨none, (some 52), (.mv none (.t 51))⟩,
      ⟨(some (52, false)), (some 53), (.mv none (.t 7))⟩,
      ⟨(some (52, false)), (some 54), (.bin [] .eql (.t 53) (.v (.int .i64 2)))⟩,
      ⟨(some (52, false)), (some 55), (.mv none (.t 54))⟩,
      ⟨(some (55, true)), (some 56), (.mv none (.t 8))⟩,
      ⟨(some (55, true)), (some 57), (.mv none (.t 6))⟩,
      ⟨(some (55, true)), (some 58), (.bin [] .sub (.t 56) (.t 57))⟩,
      ⟨(some (55, true)), (some 59), (.bin [] .gtr (.t 58) (.v (.int .i64 300)))⟩,
      ⟨(some (52, false)), (some 60), (.pick (.t 55) (.t 59) (.v (.bool false)))⟩,
      ⟨none, (some 61), (.pick (.t 52) (.v (.bool true)) (.t 60))⟩,
      ⟨none, (some 43), (.mvS none (.t 61))⟩])
  (.cond (.t 43) (.seq (.reg (.mk [2, 3, 4] [] []) [⟨none, (some 62), (.mvS none (.t 6))⟩,
      ⟨none, (some 2), (.mvS (some 3) (.v .nils))⟩,
      ⟨none, (some 3), (.mvS none (.v (.int .i64 2)))⟩,
      ⟨none, (some 4), (.mvS none (.t 62))⟩])
  .ret) (.seq (.reg (.mk [0, 5, 6, 7, 8, 63] [] []) [⟨none, (some 64), (.mv none (.t 7))⟩,
      ⟨none, (some 65), (.bin [] .eql (.t 64) (.v (.int .i64 2)))⟩,
      ⟨none, (some 66), (.mv none (.t 65))⟩,
      ⟨(some (66, true)), (some 67), (.mv none (.t 0))⟩,
      ⟨(some (66, true)), (some 68), (.mv none (.t 6))⟩,
      ⟨(some (66, true)), (some 69), (.ix (.t 67) (.t 68))⟩,
      ⟨(some (66, true)), (some 70), (.bin [] .eql (.t 69) (.v (.int .u8 48)))⟩,
      ⟨none, (some 71), (.pick (.t 66) (.t 70) (.v (.bool false)))⟩,
      ⟨none, (some 72), (.mv none (.t 71))⟩,
      ⟨(some (72, true)), (some 73), (.mv none (.t 8))⟩,
      ⟨(some (72, true)), (some 74), (.mv none (.t 6))⟩,
      ⟨(some (72, true)), (some 75), (.bin [] .sub (.t 73) (.t 74))⟩,
      ⟨(some (72, true)), (some 76), (.bin [] .gtr (.t 75) (.v (.int .i64 1)))⟩,
      ⟨none, (some 77), (.pick (.t 72) (.t 76) (.v (.bool false)))⟩,
      ⟨none, (some 63), (.mvS none (.t 77))⟩])
  (.cond (.t 63) (.seq (.reg (.mk [2, 3, 4] [] []) [⟨none, (some 78), (.mvS none (.t 6))⟩,
      ⟨none, (some 2), (.mvS (some 3) (.v .nils))⟩,
      ⟨none, (some 3), (.mvS none (.v (.int .i64 10)))⟩,
      ⟨none, (some 4), (.mvS none (.t 78))⟩])
  .ret) (.seq (.reg (.mk [0, 5, 6, 7, 8, 79] [] []) [⟨none, (some 80), (.mv none (.t 7))⟩,
      ⟨none, (some 81), (.bin [] .eql (.t 80) (.v (.int .i64 2)))⟩,
      ⟨none, (some 82), (.mv none (.t 81))⟩,
      ⟨(some (82, true)), (some 83), (.mv none (.t 8))⟩,
      ⟨(some (82, true)), (some 84), (.mv none (.t 0))⟩,
      ⟨(some (82, true)), (some 85), (.lenStr (.t 84))⟩,
      ⟨(some (82, true)), (some 86), (.bin [] .lss (.t 83) (.t 85))⟩,
      ⟨none, (some 87), (.pick (.t 82) (.t 86) (.v (.bool false)))⟩,
      ⟨none, (some 88), (.mv none (.t 87))⟩,
      ⟨(some (88, true)), (some 89), (.mv none (.t 0))⟩,
      ⟨(some (88, true)), (some 90), (.mv none (.t 8))⟩,
      ⟨(some (88, true)), (some 91), (.ix (.t 89) (.t 90))⟩,
      ⟨(some (88, true)), (some 92), (.call [none] none 0 23 [(.t 91)])⟩,
      ⟨(some (88, true)), (some 93), (.bin [] .eql (.t 92) (.v (.int .i64 1)))⟩,
      ⟨none, (some 94), (.pick (.t 88) (.t 93) (.v (.bool false)))⟩,
      ⟨none, (some 79), (.mvS none (.t 94))⟩])
  (.cond (.t 79) (.seq (.reg (.mk [2, 3, 4] [] []) [⟨none, (some 95), (.mvS none (.t 8))⟩,
      ⟨none, (some 2), (.mvS (some 3) (.v .nils))⟩,
      ⟨none, (some 3), (.mvS none (.v (.int .i64 100)))⟩,
      ⟨none, (some 4), (.mvS none (.t 95))⟩])
  .ret) .skip)))))))))
  (.seq (.reg (.mk [0, 5, 8] [] []) [⟨none, (some 96), (.mvS (some 3) (.t 5))⟩,
      ⟨none, (some 97), (.mv none (.t 7))⟩,
      ⟨none, (some 98), (.mv none (.t 0))⟩,
      ⟨none, (some 99), (.mv none (.t 6))⟩,
      ⟨none, (some 100), (.mv none (.t 8))⟩,
      ⟨none, (some 101), (.slc true none false (.t 98) (some (.t 99)) (some (.t 100)))⟩,
      ⟨none, (some 102), (.mv none (.t 6))⟩,
      ⟨none, (some 103), (.build [(0, 1), (1, 1), (2, 1)] [(.int .i64 0), (.str []), (.int .i64 0)] [0, 1, 2] [(.t 97), (.t 101), (.t 102)])⟩,
      ⟨none, (some 104), (.buildSl 3 [(.t 103)])⟩,
      ⟨none, (some 105), (.app 3 32 (.t 96) (.t 104))⟩,
      ⟨none, (some 5), (.mvS (some 3) (.t 105))⟩])
  (.reg (.mk [0, 5, 6] [] []) [⟨none, (some 106), (.mv none (.t 8))⟩,
      ⟨none, (some 6), (.mvS none (.t 106))⟩]))))))
  (.reg (.mk [0, 5, 6] [] []) [⟨none, (some 19), (.mv none (.t 0))⟩,
      ⟨none, (some 20), (.mv none (.t 6))⟩,
      ⟨none, (some 21), (.call [none, none] none 0 22 [(.t 19), (.t 20)])⟩,
      ⟨none, (some 6), (.mvS none (.t 21))⟩]))))))
  (.seq (.reg (.mk [2, 3, 4] [] []) [⟨none, (some 107), (.mvS (some 3) (.t 5))⟩,
      ⟨none, (some 2), (.mvS (some 3) (.t 107))⟩,
      ⟨none, (some 3), (.mvS none (.v (.int .i64 0)))⟩,
      ⟨none, (some 4), (.mvS none (.v (.int .i64 0)))⟩])
  .ret)))))
theorem k11 {B : Heap} {args : List V} {objs : List Ob} {r : V} {objs' news : List Ob} (h : acwp (CallOk Try.prog B) c11 (initSt args objs) (EndA (tabT tab) [.tmp 2, .tmp 3, .tmp 4] objs.length (mvOf args objs) [] r objs' news)) (hn : args.length ≤ Try.f11.ntmps := by exact Nat.le_of_ble_eq_true rfl) (hlen : objs'.length = objs.length := by rfl) : Ok B 11 args objs r objs' news :=
  callOkB tabOk mixed Try.func11 Try.call11 (hints [] [([0], []), ([], []), ([0, 12], []), ([], []), ([2, 3, 4], []), ([], []), ([0, 5], []), ([], []), ([0, 5, 6], []), ([], []), ([0, 5, 6, 18], []), ([0, 5, 6], []), ([0, 5, 6], []), ([], []), ([0, 5, 6, 7], []), ([], []), ([0, 5, 6, 7, 8], []), ([], []), ([0, 5, 6, 7, 8, 31], []), ([], []), ([0, 5, 6, 9], []), ([], []), ([0, 5, 6, 9, 38], []), ([], []), ([2, 3, 4], []), ([], []), ([0, 5, 6, 8], []), ([], []), ([0, 5, 6, 7, 8], []), ([], []), ([0, 5, 6, 7, 8, 43], []), ([], []), ([2, 3, 4], []), ([], []), ([0, 5, 6, 7, 8, 63], []), ([], []), ([2, 3, 4], []), ([], []), ([0, 5, 6, 7, 8, 79], []), ([], []), ([2, 3, 4], []), ([], []), ([0, 5, 8], []), ([], []), ([0, 5, 6], []), ([], []), ([2, 3, 4], []), ([], [])]) ⟨[2, 3, 4], [], [], []⟩ (by kernel_rfl) rfl rfl (by decide) hn hlen h
def c12 : AC :=
  (.seq (.reg (.mk [0, 1] [] []) [⟨none, (some 4), (.mvS none (.v (.bool false)))⟩])
  (.seq (.seq (.reg (.mk [0, 1, 10] [] []) [⟨none, (some 6), (.mv (some 3) (.t 0))⟩,
      ⟨none, (some 7), (.lenSl (.t 6))⟩,
      ⟨none, (some 8), (.mv (some 3) (.t 1))⟩,
      ⟨none, (some 9), (.lenSl (.t 8))⟩,
      ⟨none, (some 10), (.bin [] .neq (.t 7) (.t 9))⟩])
  (.cond (.t 10) (.seq (.reg (.mk [4] [] []) [⟨none, (some 4), (.mvS none (.v (.bool false)))⟩])
  .ret) .skip))
  (.seq (.seq (.reg (.mk [0, 1, 5] [] []) [⟨none, (some 5), (.mvS none (.v (.int .i64 0)))⟩])
  (.block 0 (.loop (.mk [0, 1, 5] [] []) (.seq (.seq (.reg (.mk [0, 1, 5, 14] [] []) [⟨none, (some 11), (.mv none (.t 5))⟩,
      ⟨none, (some 12), (.mv (some 3) (.t 0))⟩,
      ⟨none, (some 13), (.lenSl (.t 12))⟩,
      ⟨none, (some 14), (.bin [] .lss (.t 11) (.t 13))⟩])
  (.cond (.t 14) .skip (.exit 0)))
  (.seq (.block 1 (.seq (.regD (.mk [0, 1, 5, 25] [] []) [(0, 1), (0, 4), (1, 4), (2, 4), (3, 4), (0, 5), (1, 5), (2, 5), (3, 5), (4, 5), (0, 6), (1, 6), (2, 6), (3, 6), (0, 7), (1, 7), (2, 7), (3, 7)] [⟨none, (some 17), (.mv (some 3) (.t 0))⟩,
      ⟨none, (some 18), (.mv none (.t 5))⟩,
      ⟨none, (some 19), (.ia (some 3) none (.t 17) (.t 18))⟩,
      ⟨none, (some 20), (.load (some 3) false (.t 19))⟩,
      ⟨none, (some 21), (.mv (some 3) (.t 1))⟩,
      ⟨none, (some 22), (.mv none (.t 5))⟩,
      ⟨none, (some 23), (.ia (some 3) none (.t 21) (.t 22))⟩,
      ⟨none, (some 24), (.load (some 3) false (.t 23))⟩,
      ⟨none, (some 25), (.bin [10, 2, 4, 2] .neq (.t 20) (.t 24))⟩])
  (.cond (.t 25) (.seq (.reg (.mk [4] [] []) [⟨none, (some 4), (.mvS none (.v (.bool false)))⟩])
  .ret) .skip)))
  (.reg (.mk [0, 1, 5] [] []) [⟨none, (some 15), (.mv none (.t 5))⟩,
      ⟨none, (some 16), (.bin [] .add (.t 15) (.v (.int .i64 1)))⟩,
      ⟨none, (some 5), (.mvS none (.t 16))⟩]))))))
  (.seq (.reg (.mk [4] [] []) [⟨none, (some 4), (.mvS none (.v (.bool true)))⟩])
  .ret))))
theorem k12 {B : Heap} {args : List V} {objs : List Ob} {r : V} {objs' news : List Ob} (h : acwp (CallOk Try.prog B) c12 (initSt args objs) (EndA (tabT tab) [.tmp 4] objs.length (mvOf args objs) [] r objs' news)) (hn : args.length ≤ Try.f12.ntmps := by exact Nat.le_of_ble_eq_true rfl) (hlen : objs'.length = objs.length := by rfl) : Ok B 12 args objs r objs' news :=
  callOkB tabOk mixed Try.func12 Try.call12 (hints [] [([0, 1], []), ([], []), ([0, 1, 10], []), ([], []), ([4], []), ([], []), ([0, 1, 5], []), ([], []), ([0, 1, 5, 14], []), ([0, 1, 5], []), ([0, 1, 5], []), ([], []), ([0, 1, 5, 25], []), ([], []), ([4], []), ([], []), ([4], []), ([], [])]) ⟨[4], [], [], []⟩ (by kernel_rfl) rfl rfl (by decide) hn hlen h
def c13 : AC :=
  (.seq (.reg (.mk [0] [] []) [⟨none, (some 2), (.mvS none (.v (.bool false)))⟩])
  (.seq (.seq (.reg (.mk [3] [] []) [⟨none, (some 3), (.mv none (.t 0))⟩])
  (.block 0 (.seq (.seq (.reg (.mk [3, 4] [] []) [⟨none, (some 5), (.bin [] .eql (.t 3) (.v (.str [99, 108, 97, 115, 115])))⟩,
      ⟨none, (some 4), (.mvS none (.t 5))⟩])
  (.cond (.t 4) .skip (.seq (.reg (.mk [3, 4] [] []) [⟨none, (some 6), (.bin [] .eql (.t 3) (.v (.str [105, 110, 116, 101, 114, 102, 97, 99, 101])))⟩,
      ⟨none, (some 4), (.mvS none (.t 6))⟩])
  (.cond (.t 4) .skip (.seq (.reg (.mk [3, 4] [] []) [⟨none, (some 7), (.bin [] .eql (.t 3) (.v (.str [101, 120, 116, 101, 110, 100, 115])))⟩,
      ⟨none, (some 4), (.mvS none (.t 7))⟩])
  (.cond (.t 4) .skip (.seq (.reg (.mk [3, 4] [] []) [⟨none, (some 8), (.bin [] .eql (.t 3) (.v (.str [105, 109, 112, 108, 101, 109, 101, 110, 116, 115])))⟩,
      ⟨none, (some 4), (.mvS none (.t 8))⟩])
  (.cond (.t 4) .skip (.seq (.reg (.mk [3, 4] [] []) [⟨none, (some 9), (.bin [] .eql (.t 3) (.v (.str [102, 105, 110, 97, 108])))⟩,
      ⟨none, (some 4), (.mvS none (.t 9))⟩])
  (.cond (.t 4) .skip (.seq (.reg (.mk [3, 4] [] []) [⟨none, (some 10), (.bin [] .eql (.t 3) (.v (.str [118, 97, 114])))⟩,
      ⟨none, (some 4), (.mvS none (.t 10))⟩])
  (.cond (.t 4) .skip (.seq (.reg (.mk [3, 4] [] []) [⟨none, (some 11), (.bin [] .eql (.t 3) (.v (.str [105, 110, 118, 97, 114, 105, 97, 110, 116])))⟩,
      ⟨none, (some 4), (.mvS none (.t 11))⟩])
  (.cond (.t 4) .skip (.seq (.reg (.mk [3, 4] [] []) [⟨none, (some 12), (.bin [] .eql (.t 3) (.v (.str [110, 101, 119])))⟩,
      ⟨none, (some 4), (.mvS none (.t 12))⟩])
  (.cond (.t 4) .skip (.seq (.reg (.mk [3, 4] [] []) [⟨none, (some 13), (.bin [] .eql (.t 3) (.v (.str [115, 117, 112, 101, 114])))⟩,
      ⟨none, (some 4), (.mvS none (.t 13))⟩])
  (.cond (.t 4) .skip (.seq (.reg (.mk [3, 4] [] []) [⟨none, (some 14), (.bin [] .eql (.t 3) (.v (.str [100, 101, 102])))⟩,
      ⟨none, (some 4), (.mvS none (.t 14))⟩])
  (.cond (.t 4) .skip (.seq (.reg (.mk [3, 4] [] []) [⟨none, (some 15), (.bin [] .eql (.t 3) (.v (.str [118, 111, 105, 100])))⟩,
      ⟨none, (some 4), (.mvS none (.t 15))⟩])
  (.cond (.t 4) .skip (.seq (.reg (.mk [3, 4] [] []) [⟨none, (some 16), (.bin [] .eql (.t 3) (.v (.str [105, 110, 116])))⟩,
      ⟨none, (some 4), (.mvS none (.t 16))⟩])
  (.cond (.t 4) .skip (.seq (.reg (.mk [3, 4] [] []) [⟨none, (some 17), (.bin [] .eql (.t 3) (.v (.str [98, 111, 111, 108])))⟩,
      ⟨none, (some 4), (.mvS none (.t 17))⟩])
  (.cond (.t 4) .skip (.seq (.reg (.mk [3, 4] [] []) [⟨none, (some 18), (.bin [] .eql (.t 3) (.v (.str [108, 101, 116])))⟩,
      ⟨none, (some 4), (.mvS none (.t 18))⟩])
  (.cond (.t 4) .skip (.seq (.reg (.mk [3, 4] [] []) [⟨none, (some 19), (.bin [] .eql (.t 3) (.v (.str [105, 102])))⟩,
      ⟨none, (some 4), (.mvS none (.t 19))⟩])
  (.cond (.t 4) .skip (.seq (.reg (.mk [3, 4] [] []) [⟨none, (some 20), (.bin [] .eql (.t 3) (.v (.str [101, 108, 115, 101])))⟩,
      ⟨none, (some 4), (.mvS none (.t 20))⟩])
  (.cond (.t 4) .skip (.seq (.reg (.mk [3, 4] [] []) [⟨none, (some 21), (.bin [] .eql (.t 3) (.v (.str [119, 104, 105, 108, 101])))⟩,
      ⟨none, (some 4), (.mvS none (.t 21))⟩])
  (.cond (.t 4) .skip (.seq (.reg (.mk [3, 4] [] []) [⟨none, (some 22), (.bin [] .eql (.t 3) (.v (.str [114, 101, 116, 117, 114, 110])))⟩,
      ⟨none, (some 4), (.mvS none (.t 22))⟩])
  (.cond (.t 4) .skip (.seq (.reg (.mk [3, 4] [] []) [⟨none, (some 23), (.bin [] .eql (.t 3) (.v (.str [97, 115, 115, 101, 114, 116])))⟩,
      ⟨none, (some 4), (.mvS none (.t 23))⟩])
  (.cond (.t 4) .skip (.seq (.reg (.mk [3, 4] [] []) [⟨none, (some 24), (.bin [] .eql (.t 3) (.v (.str [112, 114, 105, 110, 116])))⟩,
      ⟨none, (some 4), (.mvS none (.t 24))⟩])
  (.cond (.t 4) .skip (.seq (.reg (.mk [3, 4] [] []) [⟨none, (some 25), (.bin [] .eql (.t 3) (.v (.str [116, 114, 117, 101])))⟩,
      ⟨none, (some 4), (.mvS none (.t 25))⟩])
  (.cond (.t 4) .skip (.seq (.reg (.mk [3, 4] [] []) [⟨none, (some 26), (.bin [] .eql (.t 3) (.v (.str [102, 97, 108, 115, 101])))⟩,
      ⟨none, (some 4), (.mvS none (.t 26))⟩])
  (.cond (.t 4) .skip (.seq (.reg (.mk [3, 4] [] []) [⟨none, (some 27), (.bin [] .eql (.t 3) (.v (.str [110, 117, 108, 108])))⟩,
      ⟨none, (some 4), (.mvS none (.t 27))⟩])
  (.cond (.t 4) .skip (.seq (.reg (.mk [3, 4] [] []) [⟨none, (some 28), (.bin [] .eql (.t 3) (.v (.str [116, 104, 105, 115])))⟩,
      ⟨none, (some 4), (.mvS none (.t 28))⟩])
  (.cond (.t 4) .skip (.seq (.reg (.mk [3, 4] [] []) [⟨none, (some 29), (.bin [] .eql (.t 3) (.v (.str [108, 105, 115, 116])))⟩,
      ⟨none, (some 4), (.mvS none (.t 29))⟩])
  (.cond (.t 4) .skip (.seq (.reg (.mk [3, 4] [] []) [⟨none, (some 30), (.bin [] .eql (.t 3) (.v (.str [108, 101, 110])))⟩,
      ⟨none, (some 4), (.mvS none (.t 30))⟩])
  (.cond (.t 4) .skip (.seq (.reg (.mk [3, 4] [] []) [⟨none, (some 31), (.bin [] .eql (.t 3) (.v (.str [114, 101, 97, 100])))⟩,
      ⟨none, (some 4), (.mvS none (.t 31))⟩])
  (.cond (.t 4) .skip (.reg (.mk [4] [] []) [⟨none, (some 32), (.bin [] .eql (.t 3) (.v (.str [109, 97, 105, 110])))⟩,
      ⟨none, (some 4), (.mvS none (.t 32))⟩])))))))))))))))))))))))))))))))))))))))))))))))))))))))
  (.cond (.t 4) (.seq (.reg (.mk [2] [] []) [⟨none, (some 2), (.mvS none (.v (.bool true)))⟩])
  .ret) .skip))))
  (.seq (.reg (.mk [2] [] []) [⟨none, (some 2), (.mvS none (.v (.bool false)))⟩])
  .ret)))
theorem k13 {B : Heap} {args : List V} {objs : List Ob} {r : V} {objs' news : List Ob} (h : acwp (CallOk Try.prog B) c13 (initSt args objs) (EndA (tabT tab) [.tmp 2] objs.length (mvOf args objs) [] r objs' news)) (hn : args.length ≤ Try.f13.ntmps := by exact Nat.le_of_ble_eq_true rfl) (hlen : objs'.length = objs.length := by rfl) : Ok B 13 args objs r objs' news :=
  callOkB tabOk mixed Try.func13 Try.call13 (hints [] [([0], []), ([], []), ([3], []), ([], []), ([3, 4], []), ([], []), ([3, 4], []), ([], []), ([3, 4], []), ([], []), ([3, 4], []), ([], []), ([3, 4], []), ([], []), ([3, 4], []), ([], []), ([3, 4], []), ([], []), ([3, 4], []), ([], []), ([3, 4], []), ([], []), ([3, 4], []), ([], []), ([3, 4], []), ([], []), ([3, 4], []), ([], []), ([3, 4], []), ([], []), ([3, 4], []), ([], []), ([3, 4], []), ([], []), ([3, 4], []), ([], []), ([3, 4], []), ([], []), ([3, 4], []), ([], []), ([3, 4], []), ([], []), ([3, 4], []), ([], []), ([3, 4], []), ([], []), ([3, 4], []), ([], []), ([3, 4], []), ([], []), ([3, 4], []), ([], []), ([3, 4], []), ([], []), ([3, 4], []), ([], []), ([3, 4], []), ([], []), ([4], []), ([], []), ([2], []), ([], []), ([2], []), ([], [])]) ⟨[2], [], [], []⟩ (by kernel_rfl) rfl rfl (by decide) hn hlen h
def c14 : AC :=
  (.seq (.reg (.mk [0] [] []) [⟨none, (some 2), (.mvS none (.v (.bool false)))⟩])
  (.seq (.reg (.mk [2] [] []) [⟨none, (some 3), (.call [] none 0 27 [])⟩,
      ⟨none, (some 4), (.mv none (.t 0))⟩,
      ⟨none, (some 5), (.call [(some 1), none] none 0 26 [(.t 3), (.t 4)])⟩,
      ⟨none, (some 2), (.mvS none (.t 5))⟩])
  .ret))
theorem k14 {B : Heap} {args : List V} {objs : List Ob} {r : V} {objs' news : List Ob} (h : acwp (CallOk Try.prog B) c14 (initSt args objs) (EndA (tabT tab) [.tmp 2] objs.length (mvOf args objs) [] r objs' news)) (hn : args.length ≤ Try.f14.ntmps := by exact Nat.le_of_ble_eq_true rfl) (hlen : objs'.length = objs.length := by rfl) : Ok B 14 args objs r objs' news :=
  callOkB tabOk mixed Try.func14 Try.call14 (hints [] [([0], []), ([], []), ([2], []), ([], [])]) ⟨[2], [], [], []⟩ (by kernel_rfl) rfl rfl (by decide) hn hlen h
def c15 : AC :=
  (.seq (.reg (.mk [0] [] []) [⟨none, (some 2), (.mvS none (.v (.bool false)))⟩])
  (.seq (.seq (.reg (.mk [0, 19] [] []) [⟨none, (some 3), (.mv none (.t 0))⟩,
      ⟨none, (some 4), (.bin [] .eql (.t 3) (.v (.str [])))⟩,
      ⟨none, (some 5), (.mv none (.t 4))⟩,
      ⟨(some (5, false)), (some 6), (.mv none (.t 0))⟩,
      ⟨(some (5, false)), (some 7), (.lenStr (.t 6))⟩,
      ⟨(some (5, false)), (some 8), (.bin [] .gtr (.t 7) (.v (.int .i64 40)))⟩,
      ⟨none, (some 9), (.pick (.t 5) (.v (.bool true)) (.t 8))⟩,
      ⟨none, (some 10), (.mv none (.t 9))⟩,
      ⟨(some (10, false)), (some 11), (.mv none (.t 0))⟩,
      ⟨(some (10, false)), (some 12), (.ix (.t 11) (.v (.int .i64 0)))⟩,
      ⟨(some (10, false)), (some 13), (.call [none] none 0 28 [(.t 12)])⟩,
      ⟨(some (10, false)), (some 14), (.un .not (.t 13))⟩,
      ⟨none, (some 15), (.pick (.t 10) (.v (.bool true)) (.t 14))⟩,
      ⟨none, (some 16), (.mv none (.t 15))⟩,
      ⟨(some (16, false)), (some 17), (.mv none (.t 0))⟩,
      ⟨(some (16, false)), (some 18), (.call [none] none 0 13 [(.t 17)])⟩,
      ⟨none, (some 19), (.pick (.t 16) (.v (.bool true)) (.t 18))⟩])
  (.cond (.t 19) (.seq (.reg (.mk [2] [] []) [⟨none, (some 2), (.mvS none (.v (.bool false)))⟩])
  .ret) .skip))
  (.seq (.reg (.mk [2] [] []) [⟨none, (some 20), (.mv none (.t 0))⟩,
      ⟨none, (some 21), (.call [none, none, none] none 0 19 [(.t 20), (.v (.int .i64 0)), (.v (.fn 29))])⟩,
      ⟨none, (some 22), (.mv none (.t 0))⟩,
      ⟨none, (some 23), (.lenStr (.t 22))⟩,
      ⟨none, (some 24), (.bin [] .eql (.t 21) (.t 23))⟩,
      ⟨none, (some 2), (.mvS none (.t 24))⟩])
  .ret)))
theorem k15 {B : Heap} {args : List V} {objs : List Ob} {r : V} {objs' news : List Ob} (h : acwp (CallOk Try.prog B) c15 (initSt args objs) (EndA (tabT tab) [.tmp 2] objs.length (mvOf args objs) [] r objs' news)) (hn : args.length ≤ Try.f15.ntmps := by exact Nat.le_of_ble_eq_true rfl) (hlen : objs'.length = objs.length := by rfl) : Ok B 15 args objs r objs' news :=
  callOkB tabOk mixed Try.func15 Try.call15 (hints [] [([0], []), ([], []), ([0, 19], []), ([], []), ([2], []), ([], []), ([2], []), ([], [])]) ⟨[2], [], [], []⟩ (by kernel_rfl) rfl rfl (by decide) hn hlen h
def c16 : AC :=
  (.seq (.reg (.mk [0] [] []) [⟨none, (some 2), (.mvS none (.v (.bool false)))⟩])
  (.seq (.seq (.reg (.mk [0, 21] [] []) [⟨none, (some 4), (.mv none (.t 0))⟩,
      ⟨none, (some 5), (.lenStr (.t 4))⟩,
      ⟨none, (some 6), (.bin [] .eql (.t 5) (.v (.int .i64 0)))⟩,
      ⟨none, (some 7), (.mv none (.t 6))⟩,
      ⟨(some (7, false)), (some 8), (.mv none (.t 0))⟩,
      ⟨(some (7, false)), (some 9), (.lenStr (.t 8))⟩,
      ⟨(some (7, false)), (some 10), (.bin [] .gtr (.t 9) (.v (.int .i64 40)))⟩,
      ⟨none, (some 11), (.pick (.t 7) (.v (.bool true)) (.t 10))⟩,
      ⟨none, (some 12), (.mv none (.t 11))⟩,
      ⟨(some (12, false)), (some 13), (.mv none (.t 0))⟩,
      ⟨(some (12, false)), (some 14), (.ix (.t 13) (.v (.int .i64 0)))⟩,
      ⟨(some (12, false)), (some 15), (.call [none] none 0 23 [(.t 14)])⟩,
      ⟨(some (12, false)), (some 16), (.bin [] .neq (.t 15) (.v (.int .i64 1)))⟩,
      ⟨none, (some 17), (.pick (.t 12) (.v (.bool true)) (.t 16))⟩,
      ⟨none, (some 18), (.mv none (.t 17))⟩,
      ⟨(some (18, false)), (some 19), (.mv none (.t 0))⟩,
      ⟨(some (18, false)), (some 20), (.call [none] none 0 14 [(.t 19)])⟩,
      ⟨none, (some 21), (.pick (.t 18) (.v (.bool true)) (.t 20))⟩])
  (.cond (.t 21) (.seq (.reg (.mk [2] [] []) [⟨none, (some 2), (.mvS none (.v (.bool false)))⟩])
  .ret) .skip))
  (.seq (.seq (.reg (.mk [0, 3] [] []) [⟨none, (some 3), (.mvS none (.v (.int .i64 0)))⟩])
  (.block 0 (.loop (.mk [0, 3] [] []) (.seq (.seq (.reg (.mk [0, 3, 25] [] []) [⟨none, (some 22), (.mv none (.t 3))⟩,
      ⟨none, (some 23), (.mv none (.t 0))⟩,
      ⟨none, (some 24), (.lenStr (.t 23))⟩,
      ⟨none, (some 25), (.bin [] .lss (.t 22) (.t 24))⟩])
  (.cond (.t 25) .skip (.exit 0)))
  (.seq (.block 1 (.seq (.reg (.mk [0, 3, 39] [] []) [⟨none, (some 28), (.mv none (.t 0))⟩,
      ⟨none, (some 29), (.mv none (.t 3))⟩,
      ⟨none, (some 30), (.ix (.t 28) (.t 29))⟩,
      ⟨none, (some 31), (.call [none] none 0 23 [(.t 30)])⟩,
      ⟨none, (some 32), (.bin [] .neq (.t 31) (.v (.int .i64 1)))⟩,
      ⟨none, (some 33), (.mv none (.t 32))⟩,
      ⟨(some (33, true)), (some 34), (.mv none (.t 0))⟩,
      ⟨(some (33, true)), (some 35), (.mv none (.t 3))⟩,
      ⟨(some (33, true)), (some 36), (.ix (.t 34) (.t 35))⟩,
      ⟨(some (33, true)), (some 37), (.call [none] none 0 23 [(.t 36)])⟩,
      ⟨(some (33, true)), (some 38), (.bin [] .neq (.t 37) (.v (.int .i64 2)))⟩,
      ⟨none, (some 39), (.pick (.t 33) (.t 38) (.v (.bool false)))⟩])
  (.cond (.t 39) (.seq (.reg (.mk [2] [] []) [⟨none, (some 2), (.mvS none (.v (.bool false)))⟩])
  .ret) .skip)))
  (.reg (.mk [0, 3] [] []) [⟨none, (some 26), (.mv none (.t 3))⟩,
      ⟨none, (some 27), (.bin [] .add (.t 26) (.v (.int .i64 1)))⟩,
      ⟨none, (some 3), (.mvS none (.t 27))⟩]))))))
  (.seq (.reg (.mk [2] [] []) [⟨none, (some 2), (.mvS none (.v (.bool true)))⟩])
  .ret))))
theorem k16 {B : Heap} {args : List V} {objs : List Ob} {r : V} {objs' news : List Ob} (h : acwp (CallOk Try.prog B) c16 (initSt args objs) (EndA (tabT tab) [.tmp 2] objs.length (mvOf args objs) [] r objs' news)) (hn : args.length ≤ Try.f16.ntmps := by exact Nat.le_of_ble_eq_true rfl) (hlen : objs'.length = objs.length := by rfl) : Ok B 16 args objs r objs' news :=
  callOkB tabOk mixed Try.func16 Try.call16 (hints [] [([0], []), ([], []), ([0, 21], []), ([], []), ([2], []), ([], []), ([0, 3], []), ([], []), ([0, 3, 25], []), ([0, 3], []), ([0, 3], []), ([], []), ([0, 3, 39], []), ([], []), ([2], []), ([], []), ([2], []), ([], [])]) ⟨[2], [], [], []⟩ (by kernel_rfl) rfl rfl (by decide) hn hlen h
def c17 : AC :=
  (.seq (.reg (.mk [0] [] []) [⟨none, (some 2), (.mvS none (.v (.str [])))⟩,
      ⟨none, (some 3), (.mvS (some 1) (.v .nils))⟩])
  (.seq (.reg (.mk [0, 4] [(.loc 4)] []) [⟨none, (some 4), (.alloc [.nilp, (.own 1 [])])⟩])
  (.seq (.reg (.mk [0, 4, 5] [(.loc 4)] []) [⟨none, (some 5), (.mvS (some 1) (.v .nils))⟩])
  (.seq (.seq (.reg (.mk [4, 5, 8, 9, 10] [(.loc 4)] []) [⟨none, (some 8), (.mv (some 1) (.t 0))⟩,
      ⟨none, (some 9), (.lenSl (.t 8))⟩,
      ⟨none, (some 10), (.mv none (.v (.int .i64 0)))⟩])
  (.block 0 (.loop (.mk [4, 5, 8, 9, 10] [(.loc 4)] []) (.seq (.reg (.mk [4, 5, 8, 9, 10, 11] [(.loc 4)] []) [⟨none, (some 11), (.bin [] .lss (.t 10) (.t 9))⟩])
  (.seq (.cond (.t 11) .skip (.exit 0))
  (.seq (.block 1 (.seq (.reg (.mk [4, 5, 6, 7, 8, 9, 10] [(.loc 4)] []) [⟨none, (some 12), (.mv none (.t 10))⟩,
      ⟨none, (some 13), (.ia (some 1) none (.t 8) (.t 10))⟩,
      ⟨none, (some 14), (.load none false (.t 13))⟩,
      ⟨none, (some 6), (.mvS none (.t 12))⟩,
      ⟨none, (some 7), (.mvS none (.t 14))⟩])
  (.seq (.seq (.reg (.mk [4, 5, 7, 8, 9, 10, 16] [(.loc 4)] []) [⟨none, (some 15), (.mv none (.t 6))⟩,
      ⟨none, (some 16), (.bin [] .gtr (.t 15) (.v (.int .i64 0)))⟩])
  (.cond (.t 16) (.reg (.mk [4, 5, 7, 8, 9, 10] [(.loc 4)] []) [⟨none, (some 17), (.call [none, none] none 0 31 [(.t 4), (.v (.int .u8 32))])⟩]) .skip))
  (.seq (.reg (.mk [4, 5, 7, 8, 9, 10] [(.loc 4)] []) [⟨none, (some 18), (.mvS (some 1) (.t 5))⟩,
      ⟨none, (some 19), (.call [none] none 0 32 [(.t 4)])⟩,
      ⟨none, (some 20), (.buildSl 1 [(.t 19)])⟩,
      ⟨none, (some 21), (.app 1 8 (.t 18) (.t 20))⟩,
      ⟨none, (some 5), (.mvS (some 1) (.t 21))⟩])
  (.reg (.mk [4, 5, 8, 9, 10] [(.loc 4)] []) [⟨none, (some 22), (.mv none (.t 7))⟩,
      ⟨none, (some 23), (.call [none, none] none 0 33 [(.t 4), (.t 22)])⟩])))))
  (.reg (.mk [4, 5, 8, 9, 10] [(.loc 4)] []) [⟨none, (some 24), (.bin [] .add (.t 10) (.v (.int .i64 1)))⟩,
      ⟨none, (some 10), (.mv none (.t 24))⟩])))))))
  (.seq (.reg (.mk [2, 3] [] []) [⟨none, (some 25), (.call [none] none 0 34 [(.t 4)])⟩,
      ⟨none, (some 26), (.mvS (some 1) (.t 5))⟩,
      ⟨none, (some 2), (.mvS none (.t 25))⟩,
      ⟨none, (some 3), (.mvS (some 1) (.t 26))⟩])
  .ret)))))
theorem k17 {B : Heap} {args : List V} {objs : List Ob} {r : V} {objs' news : List Ob} (h : acwp (CallOk Try.prog B) c17 (initSt args objs) (EndA (tabT tab) [.tmp 2, .tmp 3] objs.length (mvOf args objs) [] r objs' news)) (hn : args.length ≤ Try.f17.ntmps := by exact Nat.le_of_ble_eq_true rfl) (hlen : objs'.length = objs.length := by rfl) : Ok B 17 args objs r objs' news :=
  callOkB tabOk mixed Try.func17 Try.call17 (hints [] [([0], []), ([], []), ([0, 4], [.loc 4]), ([], []), ([0, 4, 5], [.loc 4]), ([], []), ([4, 5, 8, 9, 10], [.loc 4]), ([], []), ([4, 5, 8, 9, 10, 11], [.loc 4]), ([4, 5, 8, 9, 10], [.loc 4]), ([4, 5, 6, 7, 8, 9, 10], [.loc 4]), ([], []), ([4, 5, 7, 8, 9, 10, 16], [.loc 4]), ([], []), ([4, 5, 7, 8, 9, 10], [.loc 4]), ([], []), ([4, 5, 7, 8, 9, 10], [.loc 4]), ([], []), ([4, 5, 8, 9, 10], [.loc 4]), ([], []), ([4, 5, 8, 9, 10], [.loc 4]), ([], []), ([2, 3], []), ([], [])]) ⟨[2, 3], [], [], []⟩ (by kernel_rfl) rfl rfl (by decide) hn hlen h
def c18 : AC :=
  (.seq (.reg (.mk [0, 1] [] []) [⟨none, (some 4), (.mvS none (.v (.bool false)))⟩])
  (.seq (.reg (.mk [4] [] []) [⟨none, (some 5), (.mv none (.t 0))⟩,
      ⟨none, (some 6), (.mv none (.t 1))⟩,
      ⟨none, (some 7), (.call [none, none] none 0 35 [(.t 5), (.t 6)])⟩,
      ⟨none, (some 4), (.mvS none (.t 7))⟩])
  .ret))
theorem k18 {B : Heap} {args : List V} {objs : List Ob} {r : V} {objs' news : List Ob} (h : acwp (CallOk Try.prog B) c18 (initSt args objs) (EndA (tabT tab) [.tmp 4] objs.length (mvOf args objs) [] r objs' news)) (hn : args.length ≤ Try.f18.ntmps := by exact Nat.le_of_ble_eq_true rfl) (hlen : objs'.length = objs.length := by rfl) : Ok B 18 args objs r objs' news :=
  callOkB tabOk mixed Try.func18 Try.call18 (hints [] [([0, 1], []), ([], []), ([4], []), ([], [])]) ⟨[4], [], [], []⟩ (by kernel_rfl) rfl rfl (by decide) hn hlen h
def c19 : AC :=
  (.seq (.reg (.mk [0, 1, 2] [] []) [⟨none, (some 6), (.mvS none (.v (.int .i64 0)))⟩])
  (.seq (.block 0 (.loop (.mk [0, 1, 2] [] []) (.seq (.seq (.reg (.mk [0, 1, 2, 17] [] []) [⟨none, (some 7), (.mv none (.t 1))⟩,
      ⟨none, (some 8), (.mv none (.t 0))⟩,
      ⟨none, (some 9), (.lenStr (.t 8))⟩,
      ⟨none, (some 10), (.bin [] .lss (.t 7) (.t 9))⟩,
      ⟨none, (some 11), (.mv none (.t 10))⟩,
      ⟨(some (11, true)), (some 12), (.mv none (.t 2))⟩,
      ⟨(some (11, true)), (some 13), (.mv none (.t 0))⟩,
      ⟨(some (11, true)), (some 14), (.mv none (.t 1))⟩,
      ⟨(some (11, true)), (some 15), (.ix (.t 13) (.t 14))⟩,
      ⟨(some (11, true)), (some 16), (.callD [none] (.t 12) [(.t 15)])⟩,
      ⟨none, (some 17), (.pick (.t 11) (.t 16) (.v (.bool false)))⟩])
  (.cond (.t 17) .skip (.exit 0)))
  (.block 1 (.reg (.mk [0, 1, 2] [] []) [⟨none, (some 18), (.mv none (.t 1))⟩,
      ⟨none, (some 19), (.bin [] .add (.t 18) (.v (.int .i64 1)))⟩,
      ⟨none, (some 1), (.mvS none (.t 19))⟩])))))
  (.seq (.reg (.mk [6] [] []) [⟨none, (some 20), (.mvS none (.t 1))⟩,
      ⟨none, (some 6), (.mvS none (.t 20))⟩])
  .ret)))
theorem k19 {B : Heap} {args : List V} {objs : List Ob} {r : V} {objs' news : List Ob} (h : acwp (CallOk Try.prog B) c19 (initSt args objs) (EndA (tabT tab) [.tmp 6] objs.length (mvOf args objs) [] r objs' news)) (hn : args.length ≤ Try.f19.ntmps := by exact Nat.le_of_ble_eq_true rfl) (hlen : objs'.length = objs.length := by rfl) : Ok B 19 args objs r objs' news :=
  callOkB tabOk mixed Try.func19 Try.call19 (hints [] [([0, 1, 2], []), ([], []), ([0, 1, 2, 17], []), ([0, 1, 2], []), ([0, 1, 2], []), ([], []), ([6], []), ([], [])]) ⟨[6], [], [], []⟩ (by kernel_rfl) rfl rfl (by decide) hn hlen h
def c20 : AC :=
  (.seq (.reg (.mk [0] [] []) [⟨none, (some 2), (.mvS none (.v (.bool false)))⟩])
  (.seq (.reg (.mk [2] [] []) [⟨none, (some 3), (.mv none (.t 0))⟩,
      ⟨none, (some 4), (.bin [] .neq (.t 3) (.v (.int .u8 10)))⟩,
      ⟨none, (some 2), (.mvS none (.t 4))⟩])
  .ret))
theorem k20 {B : Heap} {args : List V} {objs : List Ob} {r : V} {objs' news : List Ob} (h : acwp (CallOk Try.prog B) c20 (initSt args objs) (EndA (tabT tab) [.tmp 2] objs.length (mvOf args objs) [] r objs' news)) (hn : args.length ≤ Try.f20.ntmps := by exact Nat.le_of_ble_eq_true rfl) (hlen : objs'.length = objs.length := by rfl) : Ok B 20 args objs r objs' news :=
  callOkB tabOk mixed Try.func20 Try.call20 (hints [] [([0], []), ([], []), ([2], []), ([], [])]) ⟨[2], [], [], []⟩ (by kernel_rfl) rfl rfl (by decide) hn hlen h
def c21 : AC :=
  (.seq (.reg (.mk [0, 1, 4] [(.loc 4)] []) [⟨none, (some 4), (.alloc [(.int .i64 0), (.str []), (.int .i64 0)])⟩,
      ⟨none, (some 5), (.mvS none (.v (.int .i64 0)))⟩,
      ⟨none, (some 6), (.mvS none (.v (.int .i64 0)))⟩])
  (.seq (.reg (.mk [0, 1, 4, 7] [(.loc 4), (.loc 7)] []) [⟨none, (some 11), (.mv none (.t 1))⟩,
      ⟨none, (some 12), (.build [(0, 1), (1, 1), (2, 1)] [(.int .i64 0), (.str []), (.int .i64 0)] [2] [(.t 11)])⟩,
      ⟨none, (some 7), (.alloc [(.int .i64 0), (.str []), (.int .i64 0)])⟩,
      ⟨none, none, (.store 3 none (.t 7) (.t 12))⟩])
  (.seq (.seq (.reg (.mk [0, 1, 4, 7, 8] [(.loc 4), (.loc 7)] []) [⟨none, (some 13), (.mv none (.t 0))⟩,
      ⟨none, (some 14), (.mv none (.t 1))⟩,
      ⟨none, (some 15), (.ix (.t 13) (.t 14))⟩,
      ⟨none, (some 8), (.mvS none (.t 15))⟩])
  (.block 0 (.seq (.reg (.mk [0, 1, 4, 7, 8, 61] [(.loc 4), (.loc 7)] []) [⟨none, (some 62), (.mv none (.t 8))⟩,
      ⟨none, (some 63), (.call [none] none 0 28 [(.t 62)])⟩,
      ⟨none, (some 61), (.mvS none (.t 63))⟩])
  (.cond (.t 61) (.seq (.reg (.mk [0, 1, 4, 7, 9] [(.loc 4), (.loc 7)] []) [⟨none, (some 64), (.mv none (.t 0))⟩,
      ⟨none, (some 65), (.mv none (.t 1))⟩,
      ⟨none, (some 66), (.call [none, none, none] none 0 19 [(.t 64), (.t 65), (.v (.fn 36))])⟩,
      ⟨none, (some 9), (.mvS none (.t 66))⟩])
  (.seq (.regD (.mk [1, 4, 7] [(.loc 4), (.loc 7)] []) [(0, 1), (0, 2), (1, 2), (0, 4), (1, 4), (2, 4), (3, 4), (0, 5), (1, 5), (2, 5), (3, 5)] [⟨none, (some 67), (.mv none (.t 0))⟩,
      ⟨none, (some 68), (.mv none (.t 1))⟩,
      ⟨none, (some 69), (.mv none (.t 9))⟩,
      ⟨none, (some 70), (.slc true none false (.t 67) (some (.t 68)) (some (.t 69)))⟩,
      ⟨none, (some 71), (.fa 0 (.t 7))⟩,
      ⟨none, none, (.store 1 none (.t 71) (.v (.int .i64 1)))⟩,
      ⟨none, (some 72), (.fa 1 (.t 7))⟩,
      ⟨none, none, (.store 1 none (.t 72) (.t 70))⟩])
  (.seq (.reg (.mk [1, 4, 7, 76] [(.loc 4), (.loc 7)] []) [⟨none, (some 73), (.fa 1 (.t 7))⟩,
      ⟨none, (some 74), (.load none false (.t 73))⟩,
      ⟨none, (some 75), (.lenStr (.t 74))⟩,
      ⟨none, (some 76), (.bin [] .gtr (.t 75) (.v (.int .i64 40)))⟩])
  (.cond (.t 76) (.seq (.reg (.mk [4, 5, 6] [(.loc 4)] []) [⟨none, (some 77), (.load (some 3) false (.t 7))⟩,
      ⟨none, (some 78), (.mvS none (.t 1))⟩,
      ⟨none, none, (.store 3 none (.t 4) (.t 77))⟩,
      ⟨none, (some 5), (.mvS none (.v (.int .i64 2)))⟩,
      ⟨none, (some 6), (.mvS none (.t 78))⟩])
  .ret) .skip)))) (.seq (.reg (.mk [0, 1, 4, 7, 8, 79] [(.loc 4), (.loc 7)] []) [⟨none, (some 80), (.mv none (.t 8))⟩,
      ⟨none, (some 81), (.call [none] none 0 30 [(.t 80)])⟩,
      ⟨none, (some 79), (.mvS none (.t 81))⟩])
  (.cond (.t 79) (.seq (.reg (.mk [0, 1, 4, 7, 8, 10] [(.loc 4), (.loc 7)] []) [⟨none, (some 82), (.mv none (.t 0))⟩,
      ⟨none, (some 83), (.mv none (.t 1))⟩,
      ⟨none, (some 84), (.call [none, none, none] none 0 19 [(.t 82), (.t 83), (.v (.fn 30))])⟩,
      ⟨none, (some 10), (.mvS none (.t 84))⟩])
  (.seq (.regD (.mk [0, 1, 4, 7, 8, 10] [(.loc 4), (.loc 7)] []) [(0, 1), (0, 2), (1, 2), (0, 4), (1, 4), (2, 4), (3, 4), (0, 5), (1, 5), (2, 5), (3, 5)] [⟨none, (some 85), (.mv none (.t 0))⟩,
      ⟨none, (some 86), (.mv none (.t 1))⟩,
      ⟨none, (some 87), (.mv none (.t 10))⟩,
      ⟨none, (some 88), (.slc true none false (.t 85) (some (.t 86)) (some (.t 87)))⟩,
      ⟨none, (some 89), (.fa 0 (.t 7))⟩,
      ⟨none, none, (.store 1 none (.t 89) (.v (.int .i64 2)))⟩,
      ⟨none, (some 90), (.fa 1 (.t 7))⟩,
      ⟨none, none, (.store 1 none (.t 90) (.t 88))⟩])
  (.block 1 (.seq (.reg (.mk [0, 1, 4, 7, 8, 10, 91] [(.loc 4), (.loc 7)] []) [⟨none, (some 92), (.fa 1 (.t 7))⟩,
      ⟨none, (some 93), (.load none false (.t 92))⟩,
      ⟨none, (some 94), (.lenStr (.t 93))⟩,
      ⟨none, (some 95), (.bin [] .gtr (.t 94) (.v (.int .i64 300)))⟩,
      ⟨none, (some 91), (.mvS none (.t 95))⟩])
  (.cond (.t 91) (.seq (.reg (.mk [4, 5, 6] [(.loc 4)] []) [⟨none, (some 96), (.load (some 3) false (.t 7))⟩,
      ⟨none, (some 97), (.mvS none (.t 1))⟩,
      ⟨none, none, (.store 3 none (.t 4) (.t 96))⟩,
      ⟨none, (some 5), (.mvS none (.v (.int .i64 2)))⟩,
      ⟨none, (some 6), (.mvS none (.t 97))⟩])
  .ret) (.seq (.reg (.mk [0, 1, 4, 7, 10, 98] [(.loc 4), (.loc 7)] []) [⟨none, (some 99), (.mv none (.t 8))⟩,
      ⟨none, (some 100), (.bin [] .eql (.t 99) (.v (.int .u8 48)))⟩,
      ⟨none, (some 101), (.mv none (.t 100))⟩,
      ⟨(some (101, true)), (some 102), (.fa 1 (.t 7))⟩,
      ⟨(some (101, true)), (some 103), (.load none false (.t 102))⟩,
      ⟨(some (101, true)), (some 104), (.lenStr (.t 103))⟩,
      ⟨(some (101, true)), (some 105), (.bin [] .gtr (.t 104) (.v (.int .i64 1)))⟩,
      ⟨none, (some 106), (.pick (.t 101) (.t 105) (.v (.bool false)))⟩,
      ⟨none, (some 98), (.mvS none (.t 106))⟩])
  (.cond (.t 98) (.seq (.reg (.mk [4, 5, 6] [(.loc 4)] []) [⟨none, (some 107), (.load (some 3) false (.t 7))⟩,
      ⟨none, (some 108), (.mvS none (.t 1))⟩,
      ⟨none, none, (.store 3 none (.t 4) (.t 107))⟩,
      ⟨none, (some 5), (.mvS none (.v (.int .i64 10)))⟩,
      ⟨none, (some 6), (.mvS none (.t 108))⟩])
  .ret) (.seq (.reg (.mk [4, 7, 10, 109] [(.loc 4), (.loc 7)] []) [⟨none, (some 110), (.mv none (.t 10))⟩,
      ⟨none, (some 111), (.mv none (.t 0))⟩,
      ⟨none, (some 112), (.lenStr (.t 111))⟩,
      ⟨none, (some 113), (.bin [] .lss (.t 110) (.t 112))⟩,
      ⟨none, (some 114), (.mv none (.t 113))⟩,
      ⟨(some (114, true)), (some 115), (.mv none (.t 0))⟩,
      ⟨(some (114, true)), (some 116), (.mv none (.t 10))⟩,
      ⟨(some (114, true)), (some 117), (.ix (.t 115) (.t 116))⟩,
      ⟨(some (114, true)), (some 118), (.call [none] none 0 28 [(.t 117)])⟩,
      ⟨none, (some 119), (.pick (.t 114) (.t 118) (.v (.bool false)))⟩,
      ⟨none, (some 109), (.mvS none (.t 119))⟩])
  (.cond (.t 109) (.seq (.reg (.mk [4, 5, 6] [(.loc 4)] []) [⟨none, (some 120), (.load (some 3) false (.t 7))⟩,
      ⟨none, (some 121), (.mvS none (.t 10))⟩,
      ⟨none, none, (.store 3 none (.t 4) (.t 120))⟩,
      ⟨none, (some 5), (.mvS none (.v (.int .i64 100)))⟩,
      ⟨none, (some 6), (.mvS none (.t 121))⟩])
  .ret) .skip))))))))) (.seq (.reg (.mk [0, 1, 4, 7, 8] [(.loc 4), (.loc 7)] []) [⟨none, (some 16), (.fa 0 (.t 7))⟩,
      ⟨none, none, (.store 1 none (.t 16) (.v (.int .i64 3)))⟩])
  (.seq (.seq (.reg (.mk [0, 1, 4, 7, 8, 42] [(.loc 4), (.loc 7)] []) [⟨none, (some 17), (.mv none (.t 1))⟩,
      ⟨none, (some 18), (.bin [] .add (.t 17) (.v (.int .i64 1)))⟩,
      ⟨none, (some 19), (.mv none (.t 0))⟩,
      ⟨none, (some 20), (.lenStr (.t 19))⟩,
      ⟨none, (some 21), (.bin [] .lss (.t 18) (.t 20))⟩,
      ⟨none, (some 22), (.mv none (.t 21))⟩,
      ⟨(some (22, true)), (some 23), (.mv none (.t 0))⟩,
      ⟨(some (22, true)), (some 24), (.mv none (.t 1))⟩,
      ⟨(some (22, true)), (some 25), (.bin [] .add (.t 24) (.v (.int .i64 1)))⟩,
      ⟨(some (22, true)), (some 26), (.ix (.t 23) (.t 25))⟩,
      ⟨(some (22, true)), (some 27), (.bin [] .neq (.t 26) (.v (.int .u8 32)))⟩,
      ⟨none, (some 28), (.pick (.t 22) (.t 27) (.v (.bool false)))⟩,
      ⟨none, (some 29), (.mv none (.t 28))⟩,
      ⟨(some (29, true)), (some 30), (.mv none (.t 0))⟩,
      ⟨(some (29, true)), (some 31), (.mv none (.t 1))⟩,
      ⟨(some (29, true)), (some 32), (.mv none (.t 1))⟩,
      ⟨(some (29, true)), (some 33), (.bin [] .add (.t 32) (.v (.int .i64 2)))⟩,
      ⟨(some (29, true)), (some 34), (.slc true none false (.t 30) (some (.t 31)) (some (.t 33)))⟩,
      ⟨(some (29, true)), (some 35), (.call [none, none] none 0 37 [(.v (.str [61, 61, 32, 33, 61, 32, 60, 61, 32, 62, 61, 32, 38, 38, 32, 124, 124, 32, 61, 62])), (.t 34)])⟩,
      ⟨none, (some 36), (.pick (.t 29) (.t 35) (.v (.bool false)))⟩,
      ⟨none, (some 37), (.mv none (.t 36))⟩,
      ⟨(some (37, true)), (some 38), (.mv none (.t 0))⟩,
      ⟨(some (37, true)), (some 39), (.mv none (.t 1))⟩,
      ⟨(some (37, true)), (some 40), (.ix (.t 38) (.t 39))⟩,
      ⟨(some (37, true)), (some 41), (.bin [] .neq (.t 40) (.v (.int .u8 32)))⟩,
      ⟨none, (some 42), (.pick (.t 37) (.t 41) (.v (.bool false)))⟩])
  (.cond (.t 42) (.seq (.reg (.mk [4, 7] [(.loc 4), (.loc 7)] []) [⟨none, (some 43), (.mv none (.t 0))⟩,
      ⟨none, (some 44), (.mv none (.t 1))⟩,
      ⟨none, (some 45), (.mv none (.t 1))⟩,
      ⟨none, (some 46), (.bin [] .add (.t 45) (.v (.int .i64 2)))⟩,
      ⟨none, (some 47), (.slc true none false (.t 43) (some (.t 44)) (some (.t 46)))⟩,
      ⟨none, (some 48), (.fa 1 (.t 7))⟩,
      ⟨none, none, (.store 1 none (.t 48) (.t 47))⟩])
  (.seq (.reg (.mk [4, 5, 6] [(.loc 4)] []) [⟨none, (some 49), (.load (some 3) false (.t 7))⟩,
      ⟨none, none, (.store 3 none (.t 4) (.t 49))⟩,
      ⟨none, (some 5), (.mvS none (.v (.int .i64 0)))⟩,
      ⟨none, (some 6), (.mvS none (.v (.int .i64 0)))⟩])
  .ret)) .skip))
  (.seq (.seq (.reg (.mk [0, 1, 4, 7, 52] [(.loc 4), (.loc 7)] []) [⟨none, (some 50), (.mv none (.t 8))⟩,
      ⟨none, (some 51), (.call [none, none] none 0 38 [(.v (.str [40, 41, 123, 125, 91, 93, 44, 59, 58, 46, 61, 60, 62, 43, 45, 42, 47, 37, 33, 124, 63])), (.t 50)])⟩,
      ⟨none, (some 52), (.bin [] .lss (.t 51) (.v (.int .i64 0)))⟩])
  (.cond (.t 52) (.seq (.reg (.mk [4, 5, 6] [(.loc 4)] []) [⟨none, (some 53), (.load (some 3) false (.t 7))⟩,
      ⟨none, (some 54), (.mvS none (.t 1))⟩,
      ⟨none, none, (.store 3 none (.t 4) (.t 53))⟩,
      ⟨none, (some 5), (.mvS none (.v (.int .i64 100)))⟩,
      ⟨none, (some 6), (.mvS none (.t 54))⟩])
  .ret) .skip))
  (.reg (.mk [4, 7] [(.loc 4), (.loc 7)] []) [⟨none, (some 55), (.mv none (.t 0))⟩,
      ⟨none, (some 56), (.mv none (.t 1))⟩,
      ⟨none, (some 57), (.mv none (.t 1))⟩,
      ⟨none, (some 58), (.bin [] .add (.t 57) (.v (.int .i64 1)))⟩,
      ⟨none, (some 59), (.slc true none false (.t 55) (some (.t 56)) (some (.t 58)))⟩,
      ⟨none, (some 60), (.fa 1 (.t 7))⟩,
      ⟨none, none, (.store 1 none (.t 60) (.t 59))⟩]))))))))))
  (.seq (.reg (.mk [4, 5, 6] [(.loc 4)] []) [⟨none, (some 122), (.load (some 3) false (.t 7))⟩,
      ⟨none, none, (.store 3 none (.t 4) (.t 122))⟩,
      ⟨none, (some 5), (.mvS none (.v (.int .i64 0)))⟩,
      ⟨none, (some 6), (.mvS none (.v (.int .i64 0)))⟩])
  .ret))))
theorem k21 {B : Heap} {args : List V} {objs : List Ob} {r : V} {objs' news : List Ob} (h : acwp (CallOk Try.prog B) c21 (initSt args objs) (EndA (tabT tab) [.cell 4 34, .tmp 5, .tmp 6] objs.length (mvOf args objs) [] r objs' news)) (hn : args.length ≤ Try.f21.ntmps := by exact Nat.le_of_ble_eq_true rfl) (hlen : objs'.length = objs.length := by rfl) : Ok B 21 args objs r objs' news :=
  callOkB tabOk mixed Try.func21 Try.call21 (hints [] [([0, 1, 4], [.loc 4]), ([], []), ([0, 1, 4, 7], [.loc 4, .loc 7]), ([], []), ([0, 1, 4, 7, 8], [.loc 4, .loc 7]), ([], []), ([0, 1, 4, 7, 8], [.loc 4, .loc 7]), ([], []), ([0, 1, 4, 7, 8, 42], [.loc 4, .loc 7]), ([], []), ([4, 7], [.loc 4, .loc 7]), ([], []), ([4, 5, 6], [.loc 4]), ([], []), ([0, 1, 4, 7, 52], [.loc 4, .loc 7]), ([], []), ([4, 5, 6], [.loc 4]), ([], []), ([4, 7], [.loc 4, .loc 7]), ([], []), ([0, 1, 4, 7, 8, 61], [.loc 4, .loc 7]), ([], []), ([0, 1, 4, 7, 9], [.loc 4, .loc 7]), ([], []), ([1, 4, 7], [.loc 4, .loc 7]), ([], []), ([1, 4, 7, 76], [.loc 4, .loc 7]), ([], []), ([4, 5, 6], [.loc 4]), ([], []), ([0, 1, 4, 7, 8, 79], [.loc 4, .loc 7]), ([], []), ([0, 1, 4, 7, 8, 10], [.loc 4, .loc 7]), ([], []), ([0, 1, 4, 7, 8, 10], [.loc 4, .loc 7]), ([], []), ([0, 1, 4, 7, 8, 10, 91], [.loc 4, .loc 7]), ([], []), ([4, 5, 6], [.loc 4]), ([], []), ([0, 1, 4, 7, 10, 98], [.loc 4, .loc 7]), ([], []), ([4, 5, 6], [.loc 4]), ([], []), ([4, 7, 10, 109], [.loc 4, .loc 7]), ([], []), ([4, 5, 6], [.loc 4]), ([], []), ([4, 5, 6], [.loc 4]), ([], [])]) ⟨[4, 5, 6], [], [], []⟩ (by kernel_rfl) rfl rfl (by decide) hn hlen h
def c22 : AC :=
  (.seq (.reg (.mk [0, 1] [] []) [⟨none, (some 4), (.mvS none (.v (.int .i64 0)))⟩])
  (.seq (.block 0 (.loop (.mk [0, 1] [] []) (.seq (.seq (.reg (.mk [0, 1, 8] [] []) [⟨none, (some 5), (.mv none (.t 1))⟩,
      ⟨none, (some 6), (.mv none (.t 0))⟩,
      ⟨none, (some 7), (.lenStr (.t 6))⟩,
      ⟨none, (some 8), (.bin [] .lss (.t 5) (.t 7))⟩])
  (.cond (.t 8) .skip (.exit 0)))
  (.block 1 (.seq (.seq (.reg (.mk [0, 1, 13] [] []) [⟨none, (some 9), (.mv none (.t 0))⟩,
      ⟨none, (some 10), (.mv none (.t 1))⟩,
      ⟨none, (some 11), (.ix (.t 9) (.t 10))⟩,
      ⟨none, (some 12), (.call [none] none 0 23 [(.t 11)])⟩,
      ⟨none, (some 13), (.bin [] .eql (.t 12) (.v (.int .i64 3)))⟩])
  (.cond (.t 13) (.seq (.reg (.mk [0, 1] [] []) [⟨none, (some 14), (.mv none (.t 1))⟩,
      ⟨none, (some 15), (.bin [] .add (.t 14) (.v (.int .i64 1)))⟩,
      ⟨none, (some 1), (.mvS none (.t 15))⟩])
  (.exit 1)) .skip))
  (.seq (.seq (.reg (.mk [0, 1, 28] [] []) [⟨none, (some 16), (.mv none (.t 1))⟩,
      ⟨none, (some 17), (.bin [] .add (.t 16) (.v (.int .i64 2)))⟩,
      ⟨none, (some 18), (.mv none (.t 0))⟩,
      ⟨none, (some 19), (.lenStr (.t 18))⟩,
      ⟨none, (some 20), (.bin [] .gtr (.t 17) (.t 19))⟩,
      ⟨none, (some 21), (.mv none (.t 20))⟩,
      ⟨(some (21, false)), (some 22), (.mv none (.t 0))⟩,
      ⟨(some (21, false)), (some 23), (.mv none (.t 1))⟩,
      ⟨(some (21, false)), (some 24), (.mv none (.t 1))⟩,
      ⟨(some (21, false)), (some 25), (.bin [] .add (.t 24) (.v (.int .i64 2)))⟩,
      ⟨(some (21, false)), (some 26), (.slc true none false (.t 22) (some (.t 23)) (some (.t 25)))⟩,
      ⟨(some (21, false)), (some 27), (.bin [] .neq (.t 26) (.v (.str [47, 47])))⟩,
      ⟨none, (some 28), (.pick (.t 21) (.v (.bool true)) (.t 27))⟩])
  (.cond (.t 28) (.seq (.reg (.mk [4] [] []) [⟨none, (some 29), (.mvS none (.t 1))⟩,
      ⟨none, (some 4), (.mvS none (.t 29))⟩])
  .ret) .skip))
  (.block 2 (.loop (.mk [0, 1] [] []) (.seq (.seq (.reg (.mk [0, 1, 39] [] []) [⟨none, (some 30), (.mv none (.t 1))⟩,
      ⟨none, (some 31), (.mv none (.t 0))⟩,
      ⟨none, (some 32), (.lenStr (.t 31))⟩,
      ⟨none, (some 33), (.bin [] .lss (.t 30) (.t 32))⟩,
      ⟨none, (some 34), (.mv none (.t 33))⟩,
      ⟨(some (34, true)), (some 35), (.mv none (.t 0))⟩,
      ⟨(some (34, true)), (some 36), (.mv none (.t 1))⟩,
      ⟨(some (34, true)), (some 37), (.ix (.t 35) (.t 36))⟩,
      ⟨(some (34, true)), (some 38), (.bin [] .neq (.t 37) (.v (.int .u8 10)))⟩,
      ⟨none, (some 39), (.pick (.t 34) (.t 38) (.v (.bool false)))⟩])
  (.cond (.t 39) .skip (.exit 2)))
  (.block 3 (.reg (.mk [0, 1] [] []) [⟨none, (some 40), (.mv none (.t 1))⟩,
      ⟨none, (some 41), (.bin [] .add (.t 40) (.v (.int .i64 1)))⟩,
      ⟨none, (some 1), (.mvS none (.t 41))⟩])))))))))))
  (.seq (.reg (.mk [4] [] []) [⟨none, (some 42), (.mvS none (.t 1))⟩,
      ⟨none, (some 4), (.mvS none (.t 42))⟩])
  .ret)))
theorem k22 {B : Heap} {args : List V} {objs : List Ob} {r : V} {objs' news : List Ob} (h : acwp (CallOk Try.prog B) c22 (initSt args objs) (EndA (tabT tab) [.tmp 4] objs.length (mvOf args objs) [] r objs' news)) (hn : args.length ≤ Try.f22.ntmps := by exact Nat.le_of_ble_eq_true rfl) (hlen : objs'.length = objs.length := by rfl) : Ok B 22 args objs r objs' news :=
  callOkB tabOk mixed Try.func22 Try.call22 (hints [] [([0, 1], []), ([], []), ([0, 1, 8], []), ([0, 1], []), ([0, 1, 13], []), ([], []), ([0, 1], []), ([], []), ([0, 1, 28], []), ([], []), ([4], []), ([], []), ([0, 1, 39], []), ([0, 1], []), ([0, 1], []), ([], []), ([4], []), ([], [])]) ⟨[4], [], [], []⟩ (by kernel_rfl) rfl rfl (by decide) hn hlen h
def c23 : AC :=
  (.seq (.reg (.mk [0] [] []) [⟨none, (some 2), (.mvS none (.v (.int .i64 0)))⟩])
  (.seq (.block 0 (.seq (.reg (.mk [0, 3] [] []) [⟨none, (some 4), (.mv none (.t 0))⟩,
      ⟨none, (some 5), (.bin [] .geq (.t 4) (.v (.int .u8 97)))⟩,
      ⟨none, (some 6), (.mv none (.t 5))⟩,
      ⟨(some (6, true)), (some 7), (.mv none (.t 0))⟩,
      ⟨(some (6, true)), (some 8), (.bin [] .leq (.t 7) (.v (.int .u8 122)))⟩,
      ⟨none, (some 9), (.pick (.t 6) (.t 8) (.v (.bool false)))⟩,
      ⟨none, (some 10), (.mv none (.t 9))⟩,
      ⟨(some (10, false)), (some 11), (.mv none (.t 0))⟩,
      ⟨(some (10, false)), (some 12), (.bin [] .geq (.t 11) (.v (.int .u8 65)))⟩,
      ⟨(some (10, false)), (some 13), (.mv none (.t 12))⟩,
      ⟨(some (13, true)), (some 14), (.mv none (.t 0))⟩,
      ⟨(some (13, true)), (some 15), (.bin [] .leq (.t 14) (.v (.int .u8 90)))⟩,
      ⟨(some (10, false)), (some 16), (.pick (.t 13) (.t 15) (.v (.bool false)))⟩,
      ⟨none, (some 17), (.pick (.t 10) (.v (.bool true)) (.t 16))⟩,
      ⟨none, (some 18), (.mv none (.t 17))⟩,
      ⟨(some (18, false)), (some 19), (.mv none (.t 0))⟩,
      ⟨(some (18, false)), (some 20), (.bin [] .eql (.t 19) (.v (.int .u8 95)))⟩,
      ⟨none, (some 21), (.pick (.t 18) (.v (.bool true)) (.t 20))⟩,
      ⟨none, (some 3), (.mvS none (.t 21))⟩])
  (.cond (.t 3) (.seq (.reg (.mk [2] [] []) [⟨none, (some 2), (.mvS none (.v (.int .i64 1)))⟩])
  .ret) (.seq (.reg (.mk [0, 22] [] []) [⟨none, (some 23), (.mv none (.t 0))⟩,
      ⟨none, (some 24), (.bin [] .geq (.t 23) (.v (.int .u8 48)))⟩,
      ⟨none, (some 25), (.mv none (.t 24))⟩,
      ⟨(some (25, true)), (some 26), (.mv none (.t 0))⟩,
      ⟨(some (25, true)), (some 27), (.bin [] .leq (.t 26) (.v (.int .u8 57)))⟩,
      ⟨none, (some 28), (.pick (.t 25) (.t 27) (.v (.bool false)))⟩,
      ⟨none, (some 22), (.mvS none (.t 28))⟩])
  (.cond (.t 22) (.seq (.reg (.mk [2] [] []) [⟨none, (some 2), (.mvS none (.v (.int .i64 2)))⟩])
  .ret) (.seq (.reg (.mk [29] [] []) [⟨none, (some 30), (.mv none (.t 0))⟩,
      ⟨none, (some 31), (.bin [] .eql (.t 30) (.v (.int .u8 32)))⟩,
      ⟨none, (some 32), (.mv none (.t 31))⟩,
      ⟨(some (32, false)), (some 33), (.mv none (.t 0))⟩,
      ⟨(some (32, false)), (some 34), (.bin [] .eql (.t 33) (.v (.int .u8 9)))⟩,
      ⟨none, (some 35), (.pick (.t 32) (.v (.bool true)) (.t 34))⟩,
      ⟨none, (some 36), (.mv none (.t 35))⟩,
      ⟨(some (36, false)), (some 37), (.mv none (.t 0))⟩,
      ⟨(some (36, false)), (some 38), (.bin [] .eql (.t 37) (.v (.int .u8 10)))⟩,
      ⟨none, (some 39), (.pick (.t 36) (.v (.bool true)) (.t 38))⟩,
      ⟨none, (some 40), (.mv none (.t 39))⟩,
      ⟨(some (40, false)), (some 41), (.mv none (.t 0))⟩,
      ⟨(some (40, false)), (some 42), (.bin [] .eql (.t 41) (.v (.int .u8 13)))⟩,
      ⟨none, (some 43), (.pick (.t 40) (.v (.bool true)) (.t 42))⟩,
      ⟨none, (some 29), (.mvS none (.t 43))⟩])
  (.cond (.t 29) (.seq (.reg (.mk [2] [] []) [⟨none, (some 2), (.mvS none (.v (.int .i64 3)))⟩])
  .ret) .skip)))))))
  (.seq (.reg (.mk [2] [] []) [⟨none, (some 2), (.mvS none (.v (.int .i64 0)))⟩])
  .ret)))
theorem k23 {B : Heap} {args : List V} {objs : List Ob} {r : V} {objs' news : List Ob} (h : acwp (CallOk Try.prog B) c23 (initSt args objs) (EndA (tabT tab) [.tmp 2] objs.length (mvOf args objs) [] r objs' news)) (hn : args.length ≤ Try.f23.ntmps := by exact Nat.le_of_ble_eq_true rfl) (hlen : objs'.length = objs.length := by rfl) : Ok B 23 args objs r objs' news :=
  callOkB tabOk mixed Try.func23 Try.call23 (hints [] [([0], []), ([], []), ([0, 3], []), ([], []), ([2], []), ([], []), ([0, 22], []), ([], []), ([2], []), ([], []), ([29], []), ([], []), ([2], []), ([], []), ([2], []), ([], [])]) ⟨[2], [], [], []⟩ (by kernel_rfl) rfl rfl (by decide) hn hlen h
def c24 : AC :=
  (.seq (.reg (.mk [0, 1, 2] [] []) [⟨none, (some 6), (.mvS none (.v (.int .i64 0)))⟩])
  (.seq (.block 0 (.loop (.mk [0, 1, 2] [] []) (.seq (.seq (.reg (.mk [0, 1, 2, 27] [] []) [⟨none, (some 7), (.mv none (.t 1))⟩,
      ⟨none, (some 8), (.mv none (.t 0))⟩,
      ⟨none, (some 9), (.lenStr (.t 8))⟩,
      ⟨none, (some 10), (.bin [] .lss (.t 7) (.t 9))⟩,
      ⟨none, (some 11), (.mv none (.t 10))⟩,
      ⟨(some (11, true)), (some 12), (.mv none (.t 0))⟩,
      ⟨(some (11, true)), (some 13), (.mv none (.t 1))⟩,
      ⟨(some (11, true)), (some 14), (.ix (.t 12) (.t 13))⟩,
      ⟨(some (11, true)), (some 15), (.call [none] none 0 23 [(.t 14)])⟩,
      ⟨(some (11, true)), (some 16), (.bin [] .eql (.t 15) (.v (.int .i64 2)))⟩,
      ⟨(some (11, true)), (some 17), (.mv none (.t 16))⟩,
      ⟨(some (17, false)), (some 18), (.mv none (.t 2))⟩,
      ⟨(some (17, false)), (some 19), (.mv none (.t 18))⟩,
      ⟨(some (19, true)), (some 20), (.mv none (.t 0))⟩,
      ⟨(some (19, true)), (some 21), (.mv none (.t 1))⟩,
      ⟨(some (19, true)), (some 22), (.ix (.t 20) (.t 21))⟩,
      ⟨(some (19, true)), (some 23), (.call [none] none 0 23 [(.t 22)])⟩,
      ⟨(some (19, true)), (some 24), (.bin [] .eql (.t 23) (.v (.int .i64 1)))⟩,
      ⟨(some (17, false)), (some 25), (.pick (.t 19) (.t 24) (.v (.bool false)))⟩,
      ⟨(some (11, true)), (some 26), (.pick (.t 17) (.v (.bool true)) (.t 25))⟩,
      ⟨none, (some 27), (.pick (.t 11) (.t 26) (.v (.bool false)))⟩])
  (.cond (.t 27) .skip (.exit 0)))
  (.block 1 (.reg (.mk [0, 1, 2] [] []) [⟨none, (some 28), (.mv none (.t 1))⟩,
      ⟨none, (some 29), (.bin [] .add (.t 28) (.v (.int .i64 1)))⟩,
      ⟨none, (some 1), (.mvS none (.t 29))⟩])))))
  (.seq (.reg (.mk [6] [] []) [⟨none, (some 30), (.mvS none (.t 1))⟩,
      ⟨none, (some 6), (.mvS none (.t 30))⟩])
  .ret)))
theorem k24 {B : Heap} {args : List V} {objs : List Ob} {r : V} {objs' news : List Ob} (h : acwp (CallOk Try.prog B) c24 (initSt args objs) (EndA (tabT tab) [.tmp 6] objs.length (mvOf args objs) [] r objs' news)) (hn : args.length ≤ Try.f24.ntmps := by exact Nat.le_of_ble_eq_true rfl) (hlen : objs'.length = objs.length := by rfl) : Ok B 24 args objs r objs' news :=
  callOkB tabOk mixed Try.func24 Try.call24 (hints [] [([0, 1, 2], []), ([], []), ([0, 1, 2, 27], []), ([0, 1, 2], []), ([0, 1, 2], []), ([], []), ([6], []), ([], [])]) ⟨[6], [], [], []⟩ (by kernel_rfl) rfl rfl (by decide) hn hlen h
def c25 : AC :=
  (.seq (.reg (.mk [0, 1] [] []) [⟨none, (some 4), (.mvS none (.v (.int .i64 0)))⟩])
  (.seq (.reg (.mk [0, 1, 5] [] []) [⟨none, (some 7), (.buildSl 1 [(.v (.str [61, 61])), (.v (.str [33, 61])), (.v (.str [60, 61])), (.v (.str [62, 61])), (.v (.str [38, 38])), (.v (.str [124, 124])), (.v (.str [61, 62]))])⟩,
      ⟨none, (some 5), (.mvS (some 1) (.t 7))⟩])
  (.seq (.reg (.mk [0, 1, 5, 6] [] []) [⟨none, (some 8), (.buildSl 1 [(.v (.str [40])), (.v (.str [41])), (.v (.str [123])), (.v (.str [125])), (.v (.str [91])), (.v (.str [93])), (.v (.str [44])), (.v (.str [59])), (.v (.str [58])), (.v (.str [46])), (.v (.str [61])), (.v (.str [60])), (.v (.str [62])), (.v (.str [43])), (.v (.str [45])), (.v (.str [42])), (.v (.str [47])), (.v (.str [37])), (.v (.str [33])), (.v (.str [124])), (.v (.str [63]))])⟩,
      ⟨none, (some 6), (.mvS (some 1) (.t 8))⟩])
  (.seq (.seq (.reg (.mk [0, 1, 6, 22] [] []) [⟨none, (some 9), (.mv none (.t 1))⟩,
      ⟨none, (some 10), (.bin [] .add (.t 9) (.v (.int .i64 2)))⟩,
      ⟨none, (some 11), (.mv none (.t 0))⟩,
      ⟨none, (some 12), (.lenStr (.t 11))⟩,
      ⟨none, (some 13), (.bin [] .leq (.t 10) (.t 12))⟩,
      ⟨none, (some 14), (.mv none (.t 13))⟩,
      ⟨(some (14, true)), (some 15), (.mv (some 1) (.t 5))⟩,
      ⟨(some (14, true)), (some 16), (.mv none (.t 0))⟩,
      ⟨(some (14, true)), (some 17), (.mv none (.t 1))⟩,
      ⟨(some (14, true)), (some 18), (.mv none (.t 1))⟩,
      ⟨(some (14, true)), (some 19), (.bin [] .add (.t 18) (.v (.int .i64 2)))⟩,
      ⟨(some (14, true)), (some 20), (.slc true none false (.t 16) (some (.t 17)) (some (.t 19)))⟩,
      ⟨(some (14, true)), (some 21), (.call [(some 1), none] none 0 26 [(.t 15), (.t 20)])⟩,
      ⟨none, (some 22), (.pick (.t 14) (.t 21) (.v (.bool false)))⟩])
  (.cond (.t 22) (.seq (.reg (.mk [4] [] []) [⟨none, (some 4), (.mvS none (.v (.int .i64 2)))⟩])
  .ret) .skip))
  (.seq (.seq (.reg (.mk [29] [] []) [⟨none, (some 23), (.mv (some 1) (.t 6))⟩,
      ⟨none, (some 24), (.mv none (.t 0))⟩,
      ⟨none, (some 25), (.mv none (.t 1))⟩,
      ⟨none, (some 26), (.mv none (.t 1))⟩,
      ⟨none, (some 27), (.bin [] .add (.t 26) (.v (.int .i64 1)))⟩,
      ⟨none, (some 28), (.slc true none false (.t 24) (some (.t 25)) (some (.t 27)))⟩,
      ⟨none, (some 29), (.call [(some 1), none] none 0 26 [(.t 23), (.t 28)])⟩])
  (.cond (.t 29) (.seq (.reg (.mk [4] [] []) [⟨none, (some 4), (.mvS none (.v (.int .i64 1)))⟩])
  .ret) .skip))
  (.seq (.reg (.mk [4] [] []) [⟨none, (some 4), (.mvS none (.v (.int .i64 0)))⟩])
  .ret))))))
theorem k25 {B : Heap} {args : List V} {objs : List Ob} {r : V} {objs' news : List Ob} (h : acwp (CallOk Try.prog B) c25 (initSt args objs) (EndA (tabT tab) [.tmp 4] objs.length (mvOf args objs) [] r objs' news)) (hn : args.length ≤ Try.f25.ntmps := by exact Nat.le_of_ble_eq_true rfl) (hlen : objs'.length = objs.length := by rfl) : Ok B 25 args objs r objs' news :=
  callOkB tabOk mixed Try.func25 Try.call25 (hints [] [([0, 1], []), ([], []), ([0, 1, 5], []), ([], []), ([0, 1, 5, 6], []), ([], []), ([0, 1, 6, 22], []), ([], []), ([4], []), ([], []), ([29], []), ([], []), ([4], []), ([], []), ([4], []), ([], [])]) ⟨[4], [], [], []⟩ (by kernel_rfl) rfl rfl (by decide) hn hlen h
def c26 : AC :=
  (.seq (.reg (.mk [0, 1] [] []) [⟨none, (some 4), (.mvS none (.v (.bool false)))⟩])
  (.seq (.seq (.reg (.mk [0, 1, 5] [] []) [⟨none, (some 5), (.mvS none (.v (.int .i64 0)))⟩])
  (.block 0 (.loop (.mk [0, 1, 5] [] []) (.seq (.seq (.reg (.mk [0, 1, 5, 9] [] []) [⟨none, (some 6), (.mv none (.t 5))⟩,
      ⟨none, (some 7), (.mv (some 1) (.t 0))⟩,
      ⟨none, (some 8), (.lenSl (.t 7))⟩,
      ⟨none, (some 9), (.bin [] .lss (.t 6) (.t 8))⟩])
  (.cond (.t 9) .skip (.exit 0)))
  (.seq (.block 1 (.seq (.reg (.mk [0, 1, 5, 17] [] []) [⟨none, (some 12), (.mv (some 1) (.t 0))⟩,
      ⟨none, (some 13), (.mv none (.t 5))⟩,
      ⟨none, (some 14), (.ia (some 1) none (.t 12) (.t 13))⟩,
      ⟨none, (some 15), (.load none false (.t 14))⟩,
      ⟨none, (some 16), (.mv none (.t 1))⟩,
      ⟨none, (some 17), (.bin [] .eql (.t 15) (.t 16))⟩])
  (.cond (.t 17) (.seq (.reg (.mk [4] [] []) [⟨none, (some 4), (.mvS none (.v (.bool true)))⟩])
  .ret) .skip)))
  (.reg (.mk [0, 1, 5] [] []) [⟨none, (some 10), (.mv none (.t 5))⟩,
      ⟨none, (some 11), (.bin [] .add (.t 10) (.v (.int .i64 1)))⟩,
      ⟨none, (some 5), (.mvS none (.t 11))⟩]))))))
  (.seq (.reg (.mk [4] [] []) [⟨none, (some 4), (.mvS none (.v (.bool false)))⟩])
  .ret)))
theorem k26 {B : Heap} {args : List V} {objs : List Ob} {r : V} {objs' news : List Ob} (h : acwp (CallOk Try.prog B) c26 (initSt args objs) (EndA (tabT tab) [.tmp 4] objs.length (mvOf args objs) [] r objs' news)) (hn : args.length ≤ Try.f26.ntmps := by exact Nat.le_of_ble_eq_true rfl) (hlen : objs'.length = objs.length := by rfl) : Ok B 26 args objs r objs' news :=
  callOkB tabOk mixed Try.func26 Try.call26 (hints [] [([0, 1], []), ([], []), ([0, 1, 5], []), ([], []), ([0, 1, 5, 9], []), ([0, 1, 5], []), ([0, 1, 5], []), ([], []), ([0, 1, 5, 17], []), ([], []), ([4], []), ([], []), ([4], []), ([], [])]) ⟨[4], [], [], []⟩ (by kernel_rfl) rfl rfl (by decide) hn hlen h
def c27 : AC :=
  (.seq (.reg (.mk [] [] []) [⟨none, (some 0), (.mvS (some 1) (.v .nils))⟩])
  (.seq (.reg (.mk [0] [] []) [⟨none, (some 1), (.buildSl 1 [(.v (.str [99, 108, 97, 115, 115])), (.v (.str [105, 110, 116, 101, 114, 102, 97, 99, 101])), (.v (.str [101, 120, 116, 101, 110, 100, 115])), (.v (.str [105, 109, 112, 108, 101, 109, 101, 110, 116, 115])), (.v (.str [102, 105, 110, 97, 108])), (.v (.str [118, 97, 114])), (.v (.str [105, 110, 118, 97, 114, 105, 97, 110, 116])), (.v (.str [110, 101, 119])), (.v (.str [115, 117, 112, 101, 114])), (.v (.str [100, 101, 102])), (.v (.str [118, 111, 105, 100])), (.v (.str [105, 110, 116])), (.v (.str [98, 111, 111, 108])), (.v (.str [108, 101, 116])), (.v (.str [105, 102])), (.v (.str [101, 108, 115, 101])), (.v (.str [119, 104, 105, 108, 101])), (.v (.str [114, 101, 116, 117, 114, 110])), (.v (.str [97, 115, 115, 101, 114, 116])), (.v (.str [112, 114, 105, 110, 116])), (.v (.str [116, 114, 117, 101])), (.v (.str [102, 97, 108, 115, 101])), (.v (.str [110, 117, 108, 108])), (.v (.str [116, 104, 105, 115])), (.v (.str [108, 105, 115, 116])), (.v (.str [108, 101, 110])), (.v (.str [114, 101, 97, 100])), (.v (.str [109, 97, 105, 110]))])⟩,
      ⟨none, (some 0), (.mvS (some 1) (.t 1))⟩])
  .ret))
theorem k27 {B : Heap} {args : List V} {objs : List Ob} {r : V} {objs' news : List Ob} (h : acwp (CallOk Try.prog B) c27 (initSt args objs) (EndA (tabT tab) [.tmp 0] objs.length (mvOf args objs) [] r objs' news)) (hn : args.length ≤ Try.f27.ntmps := by exact Nat.le_of_ble_eq_true rfl) (hlen : objs'.length = objs.length := by rfl) : Ok B 27 args objs r objs' news :=
  callOkB tabOk mixed Try.func27 Try.call27 (hints [] [([], []), ([], []), ([0], []), ([], [])]) ⟨[0], [], [], []⟩ (by kernel_rfl) rfl rfl (by decide) hn hlen h
def c28 : AC :=
  (.seq (.reg (.mk [0] [] []) [⟨none, (some 2), (.mvS none (.v (.bool false)))⟩])
  (.seq (.reg (.mk [2] [] []) [⟨none, (some 3), (.mv none (.t 0))⟩,
      ⟨none, (some 4), (.bin [] .geq (.t 3) (.v (.int .u8 97)))⟩,
      ⟨none, (some 5), (.mv none (.t 4))⟩,
      ⟨(some (5, true)), (some 6), (.mv none (.t 0))⟩,
      ⟨(some (5, true)), (some 7), (.bin [] .leq (.t 6) (.v (.int .u8 122)))⟩,
      ⟨none, (some 8), (.pick (.t 5) (.t 7) (.v (.bool false)))⟩,
      ⟨none, (some 9), (.mv none (.t 8))⟩,
      ⟨(some (9, false)), (some 10), (.mv none (.t 0))⟩,
      ⟨(some (9, false)), (some 11), (.bin [] .geq (.t 10) (.v (.int .u8 65)))⟩,
      ⟨(some (9, false)), (some 12), (.mv none (.t 11))⟩,
      ⟨(some (12, true)), (some 13), (.mv none (.t 0))⟩,
      ⟨(some (12, true)), (some 14), (.bin [] .leq (.t 13) (.v (.int .u8 90)))⟩,
      ⟨(some (9, false)), (some 15), (.pick (.t 12) (.t 14) (.v (.bool false)))⟩,
      ⟨none, (some 16), (.pick (.t 9) (.v (.bool true)) (.t 15))⟩,
      ⟨none, (some 17), (.mv none (.t 16))⟩,
      ⟨(some (17, false)), (some 18), (.mv none (.t 0))⟩,
      ⟨(some (17, false)), (some 19), (.bin [] .eql (.t 18) (.v (.int .u8 95)))⟩,
      ⟨none, (some 20), (.pick (.t 17) (.v (.bool true)) (.t 19))⟩,
      ⟨none, (some 2), (.mvS none (.t 20))⟩])
  .ret))
theorem k28 {B : Heap} {args : List V} {objs : List Ob} {r : V} {objs' news : List Ob} (h : acwp (CallOk Try.prog B) c28 (initSt args objs) (EndA (tabT tab) [.tmp 2] objs.length (mvOf args objs) [] r objs' news)) (hn : args.length ≤ Try.f28.ntmps := by exact Nat.le_of_ble_eq_true rfl) (hlen : objs'.length = objs.length := by rfl) : Ok B 28 args objs r objs' news :=
  callOkB tabOk mixed Try.func28 Try.call28 (hints [] [([0], []), ([], []), ([2], []), ([], [])]) ⟨[2], [], [], []⟩ (by kernel_rfl) rfl rfl (by decide) hn hlen h
def c29 : AC :=
  (.seq (.reg (.mk [0] [] []) [⟨none, (some 2), (.mvS none (.v (.bool false)))⟩])
  (.seq (.reg (.mk [2] [] []) [⟨none, (some 3), (.mv none (.t 0))⟩,
      ⟨none, (some 4), (.call [none] none 0 28 [(.t 3)])⟩,
      ⟨none, (some 5), (.mv none (.t 4))⟩,
      ⟨(some (5, false)), (some 6), (.mv none (.t 0))⟩,
      ⟨(some (5, false)), (some 7), (.call [none] none 0 30 [(.t 6)])⟩,
      ⟨none, (some 8), (.pick (.t 5) (.v (.bool true)) (.t 7))⟩,
      ⟨none, (some 2), (.mvS none (.t 8))⟩])
  .ret))
theorem k29 {B : Heap} {args : List V} {objs : List Ob} {r : V} {objs' news : List Ob} (h : acwp (CallOk Try.prog B) c29 (initSt args objs) (EndA (tabT tab) [.tmp 2] objs.length (mvOf args objs) [] r objs' news)) (hn : args.length ≤ Try.f29.ntmps := by exact Nat.le_of_ble_eq_true rfl) (hlen : objs'.length = objs.length := by rfl) : Ok B 29 args objs r objs' news :=
  callOkB tabOk mixed Try.func29 Try.call29 (hints [] [([0], []), ([], []), ([2], []), ([], [])]) ⟨[2], [], [], []⟩ (by kernel_rfl) rfl rfl (by decide) hn hlen h
def c30 : AC :=
  (.seq (.reg (.mk [0] [] []) [⟨none, (some 2), (.mvS none (.v (.bool false)))⟩])
  (.seq (.reg (.mk [2] [] []) [⟨none, (some 3), (.mv none (.t 0))⟩,
      ⟨none, (some 4), (.bin [] .geq (.t 3) (.v (.int .u8 48)))⟩,
      ⟨none, (some 5), (.mv none (.t 4))⟩,
      ⟨(some (5, true)), (some 6), (.mv none (.t 0))⟩,
      ⟨(some (5, true)), (some 7), (.bin [] .leq (.t 6) (.v (.int .u8 57)))⟩,
      ⟨none, (some 8), (.pick (.t 5) (.t 7) (.v (.bool false)))⟩,
      ⟨none, (some 2), (.mvS none (.t 8))⟩])
  .ret))
theorem k30 {B : Heap} {args : List V} {objs : List Ob} {r : V} {objs' news : List Ob} (h : acwp (CallOk Try.prog B) c30 (initSt args objs) (EndA (tabT tab) [.tmp 2] objs.length (mvOf args objs) [] r objs' news)) (hn : args.length ≤ Try.f30.ntmps := by exact Nat.le_of_ble_eq_true rfl) (hlen : objs'.length = objs.length := by rfl) : Ok B 30 args objs r objs' news :=
  callOkB tabOk mixed Try.func30 Try.call30 (hints [] [([0], []), ([], []), ([2], []), ([], [])]) ⟨[2], [], [], []⟩ (by kernel_rfl) rfl rfl (by decide) hn hlen h
def c31 : AC :=
  (.seq (.reg (.mk [0, 1] [] []) [⟨none, (some 4), (.mvS none (.v .any))⟩])
  (.seq (.reg (.mk [0, 1] [] []) [⟨none, (some 5), (.mv none (.t 0))⟩,
      ⟨none, (some 6), (.call [none] none 0 39 [(.t 5)])⟩])
  (.seq (.reg (.mk [] [] []) [⟨none, (some 7), (.mv none (.t 0))⟩,
      ⟨none, (some 8), (.mv none (.t 0))⟩,
      ⟨none, (some 9), (.nilc (.t 8))⟩,
      ⟨none, (some 10), (.fa 1 (.t 9))⟩,
      ⟨none, (some 11), (.load none true (.t 10))⟩,
      ⟨none, (some 12), (.mv none (.t 1))⟩,
      ⟨none, (some 13), (.buildSl 1 [(.t 12)])⟩,
      ⟨none, (some 14), (.app 1 1 (.t 11) (.t 13))⟩,
      ⟨none, (some 15), (.nilc (.t 7))⟩,
      ⟨none, (some 16), (.fa 1 (.t 15))⟩,
      ⟨none, none, (.store 1 (some 1) (.t 16) (.t 14))⟩])
  (.seq (.reg (.mk [4] [] []) [⟨none, (some 4), (.mvS none (.v .any))⟩])
  .ret))))
theorem k31 {B : Heap} {args : List V} {objs : List Ob} {r : V} {objs' news : List Ob} (h : acwp (CallOk Try.prog B) c31 (initSt args objs) (EndA (tabT tab) [.tmp 4] objs.length (mvOf args objs) [] r objs' news)) (hn : args.length ≤ Try.f31.ntmps := by exact Nat.le_of_ble_eq_true rfl) (hlen : objs'.length = objs.length := by rfl) : Ok B 31 args objs r objs' news :=
  callOkB tabOk mixed Try.func31 Try.call31 (hints [] [([0, 1], []), ([], []), ([0, 1], []), ([], []), ([], []), ([], []), ([4], []), ([], [])]) ⟨[4], [], [], []⟩ (by kernel_rfl) rfl rfl (by decide) hn hlen h
def c32 : AC :=
  (.seq (.reg (.mk [0] [] []) [⟨none, (some 2), (.mvS none (.v (.int .i64 0)))⟩])
  (.seq (.reg (.mk [2] [] []) [⟨none, (some 3), (.mv none (.t 0))⟩,
      ⟨none, (some 4), (.nilc (.t 3))⟩,
      ⟨none, (some 5), (.fa 1 (.t 4))⟩,
      ⟨none, (some 6), (.load none false (.t 5))⟩,
      ⟨none, (some 7), (.lenSl (.t 6))⟩,
      ⟨none, (some 2), (.mvS none (.t 7))⟩])
  .ret))
theorem k32 {B : Heap} {args : List V} {objs : List Ob} {r : V} {objs' news : List Ob} (h : acwp (CallOk Try.prog B) c32 (initSt args objs) (EndA (tabT tab) [.tmp 2] objs.length (mvOf args objs) [] r objs' news)) (hn : args.length ≤ Try.f32.ntmps := by exact Nat.le_of_ble_eq_true rfl) (hlen : objs'.length = objs.length := by rfl) : Ok B 32 args objs r objs' news :=
  callOkB tabOk mixed Try.func32 Try.call32 (hints [] [([0], []), ([], []), ([2], []), ([], [])]) ⟨[2], [], [], []⟩ (by kernel_rfl) rfl rfl (by decide) hn hlen h
def c35 : AC :=
  (.seq (.reg (.mk [0, 1] [] []) [⟨none, (some 4), (.mvS none (.v (.bool false)))⟩])
  (.seq (.reg (.mk [4] [] []) [⟨none, (some 5), (.mv none (.t 0))⟩,
      ⟨none, (some 6), (.lenStr (.t 5))⟩,
      ⟨none, (some 7), (.mv none (.t 1))⟩,
      ⟨none, (some 8), (.lenStr (.t 7))⟩,
      ⟨none, (some 9), (.bin [] .geq (.t 6) (.t 8))⟩,
      ⟨none, (some 10), (.mv none (.t 9))⟩,
      ⟨(some (10, true)), (some 11), (.mv none (.t 0))⟩,
      ⟨(some (10, true)), (some 12), (.mv none (.t 1))⟩,
      ⟨(some (10, true)), (some 13), (.lenStr (.t 12))⟩,
      ⟨(some (10, true)), (some 14), (.slc true none false (.t 11) none (some (.t 13)))⟩,
      ⟨(some (10, true)), (some 15), (.mv none (.t 1))⟩,
      ⟨(some (10, true)), (some 16), (.bin [] .eql (.t 14) (.t 15))⟩,
      ⟨none, (some 17), (.pick (.t 10) (.t 16) (.v (.bool false)))⟩,
      ⟨none, (some 4), (.mvS none (.t 17))⟩])
  .ret))
theorem k35 {B : Heap} {args : List V} {objs : List Ob} {r : V} {objs' news : List Ob} (h : acwp (CallOk Try.prog B) c35 (initSt args objs) (EndA (tabT tab) [.tmp 4] objs.length (mvOf args objs) [] r objs' news)) (hn : args.length ≤ Try.f35.ntmps := by exact Nat.le_of_ble_eq_true rfl) (hlen : objs'.length = objs.length := by rfl) : Ok B 35 args objs r objs' news :=
  callOkB tabOk mixed Try.func35 Try.call35 (hints [] [([0, 1], []), ([], []), ([4], []), ([], [])]) ⟨[4], [], [], []⟩ (by kernel_rfl) rfl rfl (by decide) hn hlen h
def c36 : AC :=
  (.seq (.reg (.mk [0] [] []) [⟨none, (some 2), (.mvS none (.v (.bool false)))⟩])
  (.seq (.reg (.mk [2] [] []) [⟨none, (some 3), (.mv none (.t 0))⟩,
      ⟨none, (some 4), (.call [none] none 0 28 [(.t 3)])⟩,
      ⟨none, (some 5), (.mv none (.t 4))⟩,
      ⟨(some (5, false)), (some 6), (.mv none (.t 0))⟩,
      ⟨(some (5, false)), (some 7), (.call [none] none 0 30 [(.t 6)])⟩,
      ⟨none, (some 8), (.pick (.t 5) (.v (.bool true)) (.t 7))⟩,
      ⟨none, (some 2), (.mvS none (.t 8))⟩])
  .ret))
theorem k36 {B : Heap} {args : List V} {objs : List Ob} {r : V} {objs' news : List Ob} (h : acwp (CallOk Try.prog B) c36 (initSt args objs) (EndA (tabT tab) [.tmp 2] objs.length (mvOf args objs) [] r objs' news)) (hn : args.length ≤ Try.f36.ntmps := by exact Nat.le_of_ble_eq_true rfl) (hlen : objs'.length = objs.length := by rfl) : Ok B 36 args objs r objs' news :=
  callOkB tabOk mixed Try.func36 Try.call36 (hints [] [([0], []), ([], []), ([2], []), ([], [])]) ⟨[2], [], [], []⟩ (by kernel_rfl) rfl rfl (by decide) hn hlen h
def c38 : AC :=
  (.seq (.reg (.mk [0, 1] [] []) [⟨none, (some 4), (.mvS none (.v (.int .i64 0)))⟩])
  (.seq (.reg (.mk [4] [] []) [⟨none, (some 5), (.mv none (.t 0))⟩,
      ⟨none, (some 6), (.mv none (.t 1))⟩,
      ⟨none, (some 7), (.call [none, none] none 0 41 [(.t 5), (.t 6)])⟩,
      ⟨none, (some 4), (.mvS none (.t 7))⟩])
  .ret))
theorem k38 {B : Heap} {args : List V} {objs : List Ob} {r : V} {objs' news : List Ob} (h : acwp (CallOk Try.prog B) c38 (initSt args objs) (EndA (tabT tab) [.tmp 4] objs.length (mvOf args objs) [] r objs' news)) (hn : args.length ≤ Try.f38.ntmps := by exact Nat.le_of_ble_eq_true rfl) (hlen : objs'.length = objs.length := by rfl) : Ok B 38 args objs r objs' news :=
  callOkB tabOk mixed Try.func38 Try.call38 (hints [] [([0, 1], []), ([], []), ([4], []), ([], [])]) ⟨[4], [], [], []⟩ (by kernel_rfl) rfl rfl (by decide) hn hlen h
end Go.Proofs.Ytblmmaecklgbhaa
