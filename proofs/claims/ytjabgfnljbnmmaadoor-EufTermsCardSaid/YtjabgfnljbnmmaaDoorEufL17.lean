/- A part of the proof of a law of this seat: no condition. -/
import Derived.Test.YtjabgfnljbnmmaaDoorT1e
import Derived.Test.YtjabgfnljbnmmaaDoorA8
namespace Go.Proofs.YtjabgfnljbnmmaaDoor
open Go.Ax
def c17 : AC :=
  (.seq (.reg (.mk [0, 1, 4] [(.par 0), (.par 1), (.par 2), (.par 3), (.par 4), (.par 5), (.par 6), (.sub 30 0), (.loc 4)] [(.par 2), (.par 3), (.par 4), (.par 6)]) [⟨none, some 4, .alloc [(.str []), (.own 1 [])]⟩,
 ⟨none, some 5, .mvS none (.v (.bool false))⟩])
  (.seq (.seq (.reg (.mk [0, 1, 4, 17] [(.par 0), (.par 1), (.par 2), (.par 3), (.par 4), (.par 5), (.par 6), (.sub 30 0), (.loc 4)] [(.par 2), (.par 3), (.par 4), (.par 6)]) [⟨none, some 7, .mv none (.t 1)⟩,
 ⟨none, some 8, .bin [] .lss (.t 7) (.v (.int .i64 0))⟩,
 ⟨none, some 9, .mv none (.t 8)⟩,
 ⟨some (9, false), some 10, .mv none (.t 1)⟩,
 ⟨some (9, false), some 11, .mv none (.t 0)⟩,
 ⟨some (9, false), some 12, .nilc (.t 11)⟩,
 ⟨some (9, false), some 13, .fa 0 (.t 12)⟩,
 ⟨some (9, false), some 14, .load none false (.t 13)⟩,
 ⟨some (9, false), some 15, .lenSl (.t 14)⟩,
 ⟨some (9, false), some 16, .bin [] .geq (.t 10) (.t 15)⟩,
 ⟨none, some 17, .pick (.t 9) (.v (.bool true)) (.t 16)⟩])
  (.cond (.t 17) (.seq (.reg (.mk [4, 5] [(.par 0), (.par 1), (.par 2), (.par 3), (.par 4), (.par 5), (.par 6), (.sub 30 0), (.loc 4)] [(.par 2), (.par 3), (.par 4), (.par 6)]) [⟨none, some 18, .build [(0, 1), (1, 1)] [(.str []), (.own 1 [])] [] []⟩,
 ⟨none, none, .store 2 none (.t 4) (.t 18)⟩,
 ⟨none, some 5, .mvS none (.v (.bool false))⟩])
  .ret) .skip))
  (.seq (.reg (.mk [4, 6] [(.par 0), (.par 1), (.par 2), (.par 3), (.par 4), (.par 5), (.par 6), (.sub 30 0), (.loc 4), (.loc 6)] [(.par 2), (.par 3), (.par 4), (.par 6)]) [⟨none, some 19, .mv none (.t 0)⟩,
 ⟨none, some 20, .nilc (.t 19)⟩,
 ⟨none, some 21, .fa 0 (.t 20)⟩,
 ⟨none, some 22, .load none false (.t 21)⟩,
 ⟨none, some 23, .mv none (.t 1)⟩,
 ⟨none, some 24, .ia (some 2) none (.t 22) (.t 23)⟩,
 ⟨none, some 25, .load (some 2) false (.t 24)⟩,
 ⟨none, some 6, .alloc [(.str []), (.own 1 [])]⟩,
 ⟨none, none, .store 2 none (.t 6) (.t 25)⟩])
  (.seq (.regD (.mk [4, 5] [(.par 0), (.par 1), (.par 2), (.par 3), (.par 4), (.par 5), (.par 6), (.sub 30 0), (.loc 4)] [(.par 2), (.par 3), (.par 4), (.par 6)]) [(0, 2), (1, 2), (0, 3), (0, 4), (1, 4)] [⟨none, some 26, .fa 0 (.t 6)⟩,
 ⟨none, some 27, .load none false (.t 26)⟩,
 ⟨none, some 28, .fa 1 (.t 6)⟩,
 ⟨none, some 29, .load none false (.t 28)⟩,
 ⟨none, some 30, .call [(some 1)] none 1 35 [(.t 29)]⟩,
 ⟨none, some 31, .build [(0, 1), (1, 1)] [(.str []), (.own 1 [])] [0, 1] [(.t 27), (.t 30)]⟩,
 ⟨none, none, .store 2 none (.t 4) (.t 31)⟩,
 ⟨none, some 5, .mvS none (.v (.bool true))⟩])
  .ret))))
theorem k17 {B : Heap} {args : List V} {objs : List Ob} {r : V} {objs' news : List Ob} (h : acwp (COk Tryd.prog B) c17 (initSt args objs) (EndA (tabT tab) [.cell 4 40, .tmp 5] objs.length (mvOf args objs) [.sub 30 0] r objs' news)) (hn : args.length ≤ Tryd.f17.ntmps := by exact Nat.le_of_ble_eq_true rfl) (hlen : objs'.length = objs.length := by rfl) : Ok B 17 args objs r objs' news :=
  callMB tabOk mixed Tryd.func17 Tryd.call17 (hints [.par 2, .par 3, .par 4, .par 6] [([0, 1, 4], [.par 0, .par 1, .par 2, .par 3, .par 4, .par 5, .par 6, .sub 30 0, .loc 4]), ([], [.par 0, .par 1, .par 2, .par 3, .par 4, .par 5, .par 6, .sub 30 0]), ([0, 1, 4, 17], [.par 0, .par 1, .par 2, .par 3, .par 4, .par 5, .par 6, .sub 30 0, .loc 4]), ([], [.par 0, .par 1, .par 2, .par 3, .par 4, .par 5, .par 6, .sub 30 0]), ([4, 5], [.par 0, .par 1, .par 2, .par 3, .par 4, .par 5, .par 6, .sub 30 0, .loc 4]), ([], [.par 0, .par 1, .par 2, .par 3, .par 4, .par 5, .par 6, .sub 30 0]), ([4, 6], [.par 0, .par 1, .par 2, .par 3, .par 4, .par 5, .par 6, .sub 30 0, .loc 4, .loc 6]), ([], [.par 0, .par 1, .par 2, .par 3, .par 4, .par 5, .par 6, .sub 30 0]), ([4, 5], [.par 0, .par 1, .par 2, .par 3, .par 4, .par 5, .par 6, .sub 30 0, .loc 4]), ([], [.par 0, .par 1, .par 2, .par 3, .par 4, .par 5, .par 6, .sub 30 0])]) ⟨[4, 5], [], [], [(35, 1)]⟩ (by kernel_rfl) rfl rfl (by decide) hn hlen h
end Go.Proofs.YtjabgfnljbnmmaaDoor
