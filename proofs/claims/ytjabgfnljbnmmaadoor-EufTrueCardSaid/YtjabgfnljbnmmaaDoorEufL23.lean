/- A part of the proof of a law of this seat: no condition. -/
import Derived.Test.YtjabgfnljbnmmaaDoorT1e
import Derived.Test.YtjabgfnljbnmmaaDoorA8
namespace Go.Proofs.YtjabgfnljbnmmaaDoor
open Go.Ax
def c23 : AC :=
  (.seq (.reg (.mk [1, 2, 3, 4] [(.loc 4)] []) [⟨none, some 4, .box 2 [(.own 2 []), (.own 2 [])] (.t 0)⟩,
 ⟨none, some 8, .mvS none (.v (.int .i64 0))⟩])
  (.seq (.reg (.mk [1, 3, 9] [(.loc 9)] []) [⟨none, some 14, .fa 0 (.t 4)⟩,
 ⟨none, some 15, .load none false (.t 14)⟩,
 ⟨none, some 16, .mv none (.t 2)⟩,
 ⟨none, some 17, .ia (some 2) none (.t 15) (.t 16)⟩,
 ⟨none, some 18, .load (some 2) false (.t 17)⟩,
 ⟨none, some 9, .alloc [(.str []), (.own 1 [])]⟩,
 ⟨none, none, .store 2 none (.t 9) (.t 18)⟩])
  (.seq (.reg (.mk [1, 3, 9, 10] [(.loc 9)] []) [⟨none, some 19, .fa 0 (.t 9)⟩,
 ⟨none, some 20, .load none false (.t 19)⟩,
 ⟨none, some 21, .lenStr (.t 20)⟩,
 ⟨none, some 10, .mvS none (.t 21)⟩])
  (.seq (.seq (.reg (.mk [1, 3, 9, 10, 11] [(.loc 9)] []) [⟨none, some 11, .mvS none (.v (.int .i64 0))⟩])
  (.block 0 (.loop (.mk [1, 3, 9, 10, 11] [(.loc 9)] []) (.seq (.seq (.reg (.mk [1, 3, 9, 10, 11, 26] [(.loc 9)] []) [⟨none, some 22, .mv none (.t 11)⟩,
 ⟨none, some 23, .fa 0 (.t 9)⟩,
 ⟨none, some 24, .load none false (.t 23)⟩,
 ⟨none, some 25, .lenStr (.t 24)⟩,
 ⟨none, some 26, .bin [] .lss (.t 22) (.t 25)⟩])
  (.cond (.t 26) .skip (.exit 0)))
  (.seq (.block 1 (.reg (.mk [1, 3, 9, 10, 11] [(.loc 9)] []) [⟨none, some 29, .mv none (.t 10)⟩,
 ⟨none, some 30, .bin [] .mul (.t 29) (.v (.int .i64 7))⟩,
 ⟨none, some 31, .fa 0 (.t 9)⟩,
 ⟨none, some 32, .load none false (.t 31)⟩,
 ⟨none, some 33, .mv none (.t 11)⟩,
 ⟨none, some 34, .ix (.t 32) (.t 33)⟩,
 ⟨none, some 35, .conv (some .i64) false (.t 34)⟩,
 ⟨none, some 36, .bin [] .add (.t 30) (.t 35)⟩,
 ⟨none, some 37, .bin [] .rem (.t 36) (.v (.int .i64 1009))⟩,
 ⟨none, some 10, .mvS none (.t 37)⟩]))
  (.reg (.mk [1, 3, 9, 10, 11] [(.loc 9)] []) [⟨none, some 27, .mv none (.t 11)⟩,
 ⟨none, some 28, .bin [] .add (.t 27) (.v (.int .i64 1))⟩,
 ⟨none, some 11, .mvS none (.t 28)⟩]))))))
  (.seq (.seq (.reg (.mk [1, 3, 9, 10, 12] [(.loc 9)] []) [⟨none, some 12, .mvS none (.v (.int .i64 0))⟩])
  (.block 2 (.loop (.mk [1, 3, 9, 10, 12] [(.loc 9)] []) (.seq (.seq (.reg (.mk [1, 3, 9, 10, 12, 42] [(.loc 9)] []) [⟨none, some 38, .mv none (.t 12)⟩,
 ⟨none, some 39, .fa 1 (.t 9)⟩,
 ⟨none, some 40, .load none false (.t 39)⟩,
 ⟨none, some 41, .lenSl (.t 40)⟩,
 ⟨none, some 42, .bin [] .lss (.t 38) (.t 41)⟩])
  (.cond (.t 42) .skip (.exit 2)))
  (.seq (.block 3 (.reg (.mk [1, 3, 9, 10, 12] [(.loc 9)] []) [⟨none, some 45, .mv none (.t 10)⟩,
 ⟨none, some 46, .bin [] .mul (.t 45) (.v (.int .i64 5))⟩,
 ⟨none, some 47, .mv (some 1) (.t 1)⟩,
 ⟨none, some 48, .fa 1 (.t 9)⟩,
 ⟨none, some 49, .load none false (.t 48)⟩,
 ⟨none, some 50, .mv none (.t 12)⟩,
 ⟨none, some 51, .ia (some 1) none (.t 49) (.t 50)⟩,
 ⟨none, some 52, .load none false (.t 51)⟩,
 ⟨none, some 53, .ia (some 1) none (.t 47) (.t 52)⟩,
 ⟨none, some 54, .load none false (.t 53)⟩,
 ⟨none, some 55, .bin [] .add (.t 46) (.t 54)⟩,
 ⟨none, some 56, .bin [] .add (.t 55) (.v (.int .i64 1))⟩,
 ⟨none, some 57, .bin [] .rem (.t 56) (.v (.int .i64 1009))⟩,
 ⟨none, some 10, .mvS none (.t 57)⟩]))
  (.reg (.mk [1, 3, 9, 10, 12] [(.loc 9)] []) [⟨none, some 43, .mv none (.t 12)⟩,
 ⟨none, some 44, .bin [] .add (.t 43) (.v (.int .i64 1))⟩,
 ⟨none, some 12, .mvS none (.t 44)⟩]))))))
  (.seq (.seq (.reg (.mk [3, 10, 60] [] []) [⟨none, some 58, .mv (some 1) (.t 3)⟩,
 ⟨none, some 59, .lenSl (.t 58)⟩,
 ⟨none, some 60, .bin [] .eql (.t 59) (.v (.int .i64 0))⟩])
  (.cond (.t 60) (.seq (.reg (.mk [8] [] []) [⟨none, some 61, .mv none (.t 10)⟩,
 ⟨none, some 62, .bin [] .rem (.t 61) (.v (.int .i64 2))⟩,
 ⟨none, some 8, .mvS none (.t 62)⟩])
  .ret) .skip))
  (.seq (.reg (.mk [13] [] []) [⟨none, some 63, .mv (some 1) (.t 3)⟩,
 ⟨none, some 64, .mv none (.t 10)⟩,
 ⟨none, some 65, .mv (some 1) (.t 3)⟩,
 ⟨none, some 66, .lenSl (.t 65)⟩,
 ⟨none, some 67, .bin [] .rem (.t 64) (.t 66)⟩,
 ⟨none, some 68, .ia (some 1) none (.t 63) (.t 67)⟩,
 ⟨none, some 69, .load none false (.t 68)⟩,
 ⟨none, some 70, .bin [] .rem (.t 69) (.v (.int .i64 3))⟩,
 ⟨none, some 13, .mvS none (.t 70)⟩])
  (.seq (.seq (.reg (.mk [13, 72] [] []) [⟨none, some 71, .mv none (.t 13)⟩,
 ⟨none, some 72, .bin [] .lss (.t 71) (.v (.int .i64 0))⟩])
  (.cond (.t 72) (.reg (.mk [13] [] []) [⟨none, some 73, .mv none (.t 13)⟩,
 ⟨none, some 74, .bin [] .add (.t 73) (.v (.int .i64 3))⟩,
 ⟨none, some 13, .mvS none (.t 74)⟩]) .skip))
  (.seq (.reg (.mk [8] [] []) [⟨none, some 75, .mvS none (.t 13)⟩,
 ⟨none, some 8, .mvS none (.t 75)⟩])
  .ret)))))))))
theorem k23 {B : Heap} {args : List V} {objs : List Ob} {r : V} {objs' news : List Ob} (h : acwp (COk Tryd.prog B) c23 (initSt args objs) (EndA (tabT tab) [.tmp 8] objs.length (mvOf args objs) [] r objs' news)) (hn : args.length ≤ Tryd.f23.ntmps := by exact Nat.le_of_ble_eq_true rfl) (hlen : objs'.length = objs.length := by rfl) : Ok B 23 args objs r objs' news :=
  callMB tabOk mixed Tryd.func23 Tryd.call23 (hints [] [([1, 2, 3, 4], [.loc 4]), ([], []), ([1, 3, 9], [.loc 9]), ([], []), ([1, 3, 9, 10], [.loc 9]), ([], []), ([1, 3, 9, 10, 11], [.loc 9]), ([], []), ([1, 3, 9, 10, 11, 26], [.loc 9]), ([1, 3, 9, 10, 11], [.loc 9]), ([1, 3, 9, 10, 11], [.loc 9]), ([], []), ([1, 3, 9, 10, 11], [.loc 9]), ([], []), ([1, 3, 9, 10, 12], [.loc 9]), ([], []), ([1, 3, 9, 10, 12, 42], [.loc 9]), ([1, 3, 9, 10, 12], [.loc 9]), ([1, 3, 9, 10, 12], [.loc 9]), ([], []), ([1, 3, 9, 10, 12], [.loc 9]), ([], []), ([3, 10, 60], []), ([], []), ([8], []), ([], []), ([13], []), ([], []), ([13, 72], []), ([], []), ([13], []), ([], []), ([8], []), ([], [])]) ⟨[8], [], [], []⟩ (by kernel_rfl) rfl rfl (by decide) hn hlen h
end Go.Proofs.YtjabgfnljbnmmaaDoor
