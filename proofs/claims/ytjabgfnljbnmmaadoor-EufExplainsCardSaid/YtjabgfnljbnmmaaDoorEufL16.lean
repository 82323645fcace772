/- A part of the proof of a law of this seat: no condition. -/
import Derived.Test.YtjabgfnljbnmmaaDoorT1e
import Derived.Test.YtjabgfnljbnmmaaDoorA8
namespace Go.Proofs.YtjabgfnljbnmmaaDoor
open Go.Ax
def c16 : AC :=
  (.seq (.reg (.mk [1, 2, 4] [(.loc 2), (.loc 4)] []) [⟨none, some 2, .box 2 [(.own 2 []), (.own 2 [])] (.t 0)⟩,
 ⟨none, some 4, .alloc [(.own 2 []), (.own 2 [])]⟩])
  (.seq (.reg (.mk [1, 2, 4, 5] [(.loc 2), (.loc 4), (.loc 5)] []) [⟨none, some 7, .fa 0 (.t 2)⟩,
 ⟨none, some 8, .load none false (.t 7)⟩,
 ⟨none, some 9, .build [(0, 1), (1, 1)] [.nils, .nils] [0] [(.t 8)]⟩,
 ⟨none, some 5, .alloc [(.own 2 []), (.own 2 [])]⟩,
 ⟨none, none, .store 2 none (.t 5) (.t 9)⟩])
  (.seq (.seq (.reg (.mk [1, 2, 4, 5, 6] [(.loc 2), (.loc 4), (.loc 5)] []) [⟨none, some 6, .mvS none (.v (.int .i64 0))⟩])
  (.block 0 (.loop (.mk [1, 2, 4, 5, 6] [(.loc 2), (.loc 4), (.loc 5)] []) (.seq (.seq (.reg (.mk [1, 2, 4, 5, 6, 13] [(.loc 2), (.loc 4), (.loc 5)] []) [⟨none, some 10, .mv none (.t 6)⟩,
 ⟨none, some 11, .mv (some 1) (.t 1)⟩,
 ⟨none, some 12, .lenSl (.t 11)⟩,
 ⟨none, some 13, .bin [] .lss (.t 10) (.t 12)⟩])
  (.cond (.t 13) .skip (.exit 0)))
  (.seq (.block 1 (.seq (.regD (.mk [1, 2, 4, 5, 6, 30] [(.loc 2), (.loc 4), (.loc 5)] []) [(0, 1), (6, 7), (6, 10), (7, 10), (8, 10), (9, 10), (6, 11), (7, 11), (8, 11), (9, 11), (6, 12), (7, 12), (8, 12), (9, 12)] [⟨none, some 16, .mv (some 1) (.t 1)⟩,
 ⟨none, some 17, .mv none (.t 6)⟩,
 ⟨none, some 18, .ia (some 1) none (.t 16) (.t 17)⟩,
 ⟨none, some 19, .load none false (.t 18)⟩,
 ⟨none, some 20, .bin [] .geq (.t 19) (.v (.int .i64 0))⟩,
 ⟨none, some 21, .mv none (.t 20)⟩,
 ⟨some (21, true), some 22, .mv (some 1) (.t 1)⟩,
 ⟨some (21, true), some 23, .mv none (.t 6)⟩,
 ⟨some (21, true), some 24, .ia (some 1) none (.t 22) (.t 23)⟩,
 ⟨some (21, true), some 25, .load none false (.t 24)⟩,
 ⟨some (21, true), some 26, .fa 1 (.t 2)⟩,
 ⟨some (21, true), some 27, .load none false (.t 26)⟩,
 ⟨some (21, true), some 28, .lenSl (.t 27)⟩,
 ⟨some (21, true), some 29, .bin [] .lss (.t 25) (.t 28)⟩,
 ⟨none, some 30, .pick (.t 21) (.t 29) (.v (.bool false))⟩])
  (.cond (.t 30) (.regD (.mk [1, 2, 4, 5, 6] [(.loc 2), (.loc 4), (.loc 5)] []) [(0, 2), (1, 2), (0, 3), (0, 4), (1, 4), (2, 4), (3, 4), (0, 5), (1, 5), (2, 5), (3, 5), (4, 5), (0, 6), (1, 6), (2, 6), (3, 6), (0, 7), (2, 7), (0, 8), (1, 8), (0, 9), (0, 10), (1, 10)] [⟨none, some 31, .fa 1 (.t 5)⟩,
 ⟨none, some 32, .load none true (.t 31)⟩,
 ⟨none, some 33, .fa 1 (.t 2)⟩,
 ⟨none, some 34, .load none false (.t 33)⟩,
 ⟨none, some 35, .mv (some 1) (.t 1)⟩,
 ⟨none, some 36, .mv none (.t 6)⟩,
 ⟨none, some 37, .ia (some 1) none (.t 35) (.t 36)⟩,
 ⟨none, some 38, .load none false (.t 37)⟩,
 ⟨none, some 39, .ia (some 2) none (.t 34) (.t 38)⟩,
 ⟨none, some 40, .load (some 2) false (.t 39)⟩,
 ⟨none, some 41, .buildSl 2 [(.t 40)]⟩,
 ⟨none, some 42, .app 2 16 (.t 32) (.t 41)⟩,
 ⟨none, some 43, .fa 1 (.t 5)⟩,
 ⟨none, none, .store 1 (some 2) (.t 43) (.t 42)⟩]) .skip)))
  (.reg (.mk [1, 2, 4, 5, 6] [(.loc 2), (.loc 4), (.loc 5)] []) [⟨none, some 14, .mv none (.t 6)⟩,
 ⟨none, some 15, .bin [] .add (.t 14) (.v (.int .i64 1))⟩,
 ⟨none, some 6, .mvS none (.t 15)⟩]))))))
  (.seq (.reg (.mk [4] [(.loc 4)] []) [⟨none, some 44, .load (some 2) false (.t 5)⟩,
 ⟨none, none, .store 2 none (.t 4) (.t 44)⟩])
  .ret))))
theorem k16 {B : Heap} {args : List V} {objs : List Ob} {r : V} {objs' news : List Ob} (h : acwp (COk Tryd.prog B) c16 (initSt args objs) (EndA (tabT tab) [.cell 4 28] objs.length (mvOf args objs) [] r objs' news)) (hn : args.length ≤ Tryd.f16.ntmps := by exact Nat.le_of_ble_eq_true rfl) (hlen : objs'.length = objs.length := by rfl) : Ok B 16 args objs r objs' news :=
  callMB tabOk mixed Tryd.func16 Tryd.call16 (hints [] [([1, 2, 4], [.loc 2, .loc 4]), ([], []), ([1, 2, 4, 5], [.loc 2, .loc 4, .loc 5]), ([], []), ([1, 2, 4, 5, 6], [.loc 2, .loc 4, .loc 5]), ([], []), ([1, 2, 4, 5, 6, 13], [.loc 2, .loc 4, .loc 5]), ([1, 2, 4, 5, 6], [.loc 2, .loc 4, .loc 5]), ([1, 2, 4, 5, 6], [.loc 2, .loc 4, .loc 5]), ([], []), ([1, 2, 4, 5, 6, 30], [.loc 2, .loc 4, .loc 5]), ([], []), ([1, 2, 4, 5, 6], [.loc 2, .loc 4, .loc 5]), ([], []), ([4], [.loc 4]), ([], [])]) ⟨[4], [], [], []⟩ (by kernel_rfl) rfl rfl (by decide) hn hlen h
end Go.Proofs.YtjabgfnljbnmmaaDoor
