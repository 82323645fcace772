/- A part of the proof of a law of this seat: no condition. -/
import Derived.Test.YtjabgfnljbnmmaaDoorT1e
import Derived.Test.YtjabgfnljbnmmaaDoorA8
namespace Go.Proofs.YtjabgfnljbnmmaaDoor
open Go.Ax
abbrev qD0 : List Oid := [.par 0, .par 1, .par 2, .par 3, .par 4, .par 5, .par 6]
def c31p : AC :=
 (.seq (.reg (.mk [0, 1] [.par 0, .par 1, .par 2, .par 3, .par 4, .par 5, .par 6] []) [⟨none, some 4, .mvS none (.v (.int .i64 0))⟩])
 (.seq (.block 0 (.loop (.mk [0, 1] [.par 0, .par 1, .par 2, .par 3, .par 4, .par 5, .par 6] []) (.seq (.seq (.reg (.mk [0, 1, 13] [.par 0, .par 1, .par 2, .par 3, .par 4, .par 5, .par 6] []) [⟨none, some 5, .mv none (.t 0)⟩,
 ⟨none, some 6, .nilc (.t 5)⟩,
 ⟨none, some 7, .fa 3 (.t 6)⟩,
 ⟨none, some 8, .load none false (.t 7)⟩,
 ⟨none, some 9, .mv none (.t 1)⟩,
 ⟨none, some 10, .ia (some 1) none (.t 8) (.t 9)⟩,
 ⟨none, some 11, .load none false (.t 10)⟩,
 ⟨none, some 12, .mv none (.t 1)⟩,
 ⟨none, some 13, .bin [] .neq (.t 11) (.t 12)⟩])
  (.cond (.t 13) .skip (.exit 0)))
  (.block 1 (.reg (.mk [0, 1] [.par 0, .par 1, .par 2, .par 3, .par 4, .par 5, .par 6] []) [⟨none, some 14, .mv none (.t 0)⟩,
 ⟨none, some 15, .nilc (.t 14)⟩,
 ⟨none, some 16, .fa 3 (.t 15)⟩,
 ⟨none, some 17, .load none false (.t 16)⟩,
 ⟨none, some 18, .mv none (.t 1)⟩,
 ⟨none, some 19, .ia (some 1) none (.t 17) (.t 18)⟩,
 ⟨none, some 20, .load none false (.t 19)⟩,
 ⟨none, some 1, .mvS none (.t 20)⟩])))))
  (.seq (.reg (.mk [4] [.par 0, .par 1, .par 2, .par 3, .par 4, .par 5, .par 6] []) [⟨none, some 21, .mvS none (.t 1)⟩,
 ⟨none, some 4, .mvS none (.t 21)⟩])
  .ret)))
theorem k31p {B : Heap} {args : List V} {objs : List Ob} {r : V} {objs' news : List Ob} (h : acwp (COk Tryd.prog B) c31p (initM [] args objs) (EndA (tabT tab) [.tmp 4] objs.length [] [] r objs' news)) (hn : args.length ≤ Tryd.f31.ntmps := by exact Nat.le_of_ble_eq_true rfl) (hlen : objs'.length = objs.length := by rfl) : CallM Tryd.prog B [] 31 args objs r objs' news :=
 callMB tabOk mixed Tryd.func31 Tryd.call31 (hints [] [([0, 1], qD0), ([], []), ([0, 1, 13], qD0), ([0, 1], qD0), ([0, 1], qD0), ([], []), ([4], qD0), ([], [])]) ⟨[4], [], [], []⟩ (by kernel_rfl) rfl rfl (by decide) hn hlen h
def c24 : AC :=
 (.seq (.reg (.mk [] [] []) [⟨none, some 0, .mvS none (.v .nilp)⟩])
 (.seq (.reg (.mk [0] [.sub 4 0, .sub 4 1, .sub 4 2, .sub 4 3, .loc 1, .loc 2, .loc 4] []) [⟨none, (some 1), .mkMap⟩,
   ⟨none, (some 2), .mkMap⟩,
 ⟨none, some 3, .build [(0, 1), (1, 1), (2, 1), (3, 1), (4, 1), (5, 1), (6, 1), (7, 1)] [.nils, .any, .nils, (.sl 1 (.hole 0) 0), (.sl 1 (.hole 1) 0), (.sl 1 (.hole 2) 0), .any, (.sl 3 (.hole 3) 0)] [1, 6] [.t 1, .t 2]⟩,
 ⟨none, some 4, .box 8 [(.own 2 []), .any, (.own 2 []), (.sl 1 (.hole 0) 0), (.sl 1 (.hole 1) 0), (.sl 1 (.hole 2) 0), .any, (.sl 3 (.hole 3) 0)] (.t 3)⟩,
 ⟨none, some 0, .mvS none (.t 4)⟩])
  .ret))
theorem k24 {B : Heap} {args : List V} {objs : List Ob} {r : V} {objs' news : List Ob} (h : acwp (COk Tryd.prog B) c24 (initSt args objs) (EndA (tabT tab) [.tmp 0] objs.length (mvOf args objs) [.loc 4, .loc 1, .sub 4 0, .sub 4 1, .sub 4 2, .loc 2, .sub 4 3] r objs' news)) (hn : args.length ≤ Tryd.f24.ntmps := by exact Nat.le_of_ble_eq_true rfl) (hlen : objs'.length = objs.length := by rfl) : Ok B 24 args objs r objs' news :=
 callMB tabOk mixed Tryd.func24 Tryd.call24 (hints [] [([], []), ([], []), ([0], [.sub 4 0, .sub 4 1, .sub 4 2, .sub 4 3, .loc 1, .loc 2, .loc 4]), ([], [])]) ⟨[0], [], [], []⟩ (by kernel_rfl) rfl rfl (by decide) hn hlen h
def c11 : AC :=
 (.seq (.reg (.mk [] [] []) [⟨none, some 0, .mvS none (.v (.bool false))⟩])
 (.seq (.reg (.mk [1, 2, 3] [.sub 19 0, .sub 19 1, .sub 19 2, .sub 19 3, .sub 19 4, .sub 19 5, .sub 19 6, .loc 2] []) [⟨none, some 9, .build [(0, 1), (1, 1), (2, 1), (3, 1), (4, 1)] [.int .i64 0, (.str []), (.own 1 []), .int .i64 0, .int .i64 0] [1] [(.v (.str [97]))]⟩,
 ⟨none, some 10, .buildSl 1 [(.v (.int .i64 0))]⟩,
 ⟨none, some 11, .build [(0, 1), (1, 1), (2, 1), (3, 1), (4, 1)] [.int .i64 0, (.str []), (.own 1 []), .int .i64 0, .int .i64 0] [1, 2] [(.v (.str [102])), .t 10]⟩,
 ⟨none, some 12, .buildSl 1 [(.v (.int .i64 1))]⟩,
 ⟨none, some 13, .build [(0, 1), (1, 1), (2, 1), (3, 1), (4, 1)] [.int .i64 0, (.str []), (.own 1 []), .int .i64 0, .int .i64 0] [1, 2] [(.v (.str [102])), .t 12]⟩,
 ⟨none, some 14, .buildSl 1 [(.v (.int .i64 2))]⟩,
 ⟨none, some 15, .build [(0, 1), (1, 1), (2, 1), (3, 1), (4, 1)] [.int .i64 0, (.str []), (.own 1 []), .int .i64 0, .int .i64 0] [1, 2] [(.v (.str [102])), .t 14]⟩,
 ⟨none, some 16, .build [(0, 1), (1, 1), (2, 1), (3, 1), (4, 1)] [.int .i64 0, (.str []), (.own 1 []), .int .i64 0, .int .i64 0] [0, 3, 4] [(.v (.int .i64 1)), (.v (.int .i64 2)), (.v (.int .i64 0))]⟩,
 ⟨none, some 17, .build [(0, 1), (1, 1), (2, 1), (3, 1), (4, 1)] [.int .i64 0, (.str []), (.own 1 []), .int .i64 0, .int .i64 0] [0, 3, 4] [(.v (.int .i64 1)), (.v (.int .i64 3)), (.v (.int .i64 0))]⟩,
 ⟨none, some 18, .buildSl 5 [.t 9, .t 11, .t 13, .t 15, .t 16, .t 17]⟩,
 ⟨none, some 19, .call [(some 5)] none 7 12 [.t 18]⟩,
 ⟨none, some 8, .mv none (.t 19)⟩,
 ⟨none, some 20, .ext (.t 8) 0⟩,
 ⟨none, some 21, .ext (.t 8) 1⟩,
 ⟨none, some 22, .ext (.t 8) 2⟩,
 ⟨none, some 2, .alloc [(.own 2 []), (.own 2 [])]⟩,
 ⟨none, some 1, .mvS none (.t 20)⟩,
 ⟨none, none, .store 2 none (.t 2) (.t 21)⟩,
 ⟨none, some 3, .mvS none (.t 22)⟩])
  (.seq (.seq (.reg (.mk [1, 30] [.sub 19 0, .sub 19 1, .sub 19 2, .sub 19 3, .sub 19 4, .sub 19 5, .sub 19 6] []) [⟨none, some 23, .mv none (.t 3)⟩,
 ⟨none, some 24, .un .not (.t 23)⟩,
 ⟨none, some 25, .mv none (.t 24)⟩,
 ⟨some (25, false), some 26, .fa 0 (.t 2)⟩,
 ⟨some (25, false), some 27, .load none false (.t 26)⟩,
 ⟨some (25, false), some 28, .lenSl (.t 27)⟩,
 ⟨some (25, false), some 29, .bin [] .neq (.t 28) (.v (.int .i64 4))⟩,
 ⟨none, some 30, .pick (.t 25) (.v (.bool true)) (.t 29)⟩])
  (.cond (.t 30) (.seq (.reg (.mk [0] [] []) [⟨none, some 0, .mvS none (.v (.bool false))⟩])
  .ret) .skip))
  (.seq (.reg (.mk [1, 4, 5] [.sub 19 0, .sub 19 1, .sub 19 2, .sub 19 3, .sub 19 4, .sub 19 5, .sub 19 6] []) [⟨none, some 32, .mv none (.t 1)⟩,
 ⟨none, some 33, .call [none, none, none] none 0 21 [.t 32, (.v (.int .i64 0)), (.v (.int .i64 1))]⟩,
 ⟨none, some 31, .mv none (.t 33)⟩,
 ⟨none, some 34, .ext (.t 31) 0⟩,
 ⟨none, some 35, .ext (.t 31) 1⟩,
 ⟨none, some 4, .mvS none (.t 34)⟩,
 ⟨none, some 5, .mvS none (.t 35)⟩])
  (.seq (.reg (.mk [4, 5, 6, 7] [] []) [⟨none, some 37, .mv none (.t 1)⟩,
 ⟨none, some 38, .call [none, none, none] none 0 13 [.t 37, (.v (.int .i64 1)), (.v (.int .i64 0))]⟩,
 ⟨none, some 36, .mv none (.t 38)⟩,
 ⟨none, some 39, .ext (.t 36) 0⟩,
 ⟨none, some 40, .ext (.t 36) 1⟩,
 ⟨none, some 6, .mvS (some 1) (.t 39)⟩,
 ⟨none, some 7, .mvS none (.t 40)⟩])
  (.seq (.reg (.mk [0] [] []) [⟨none, some 41, .mv none (.t 4)⟩,
 ⟨none, some 42, .mv none (.t 41)⟩,
 ⟨some (42, true), some 43, .mv none (.t 5)⟩,
 ⟨some (42, true), some 44, .bin [] .eql (.t 43) (.v (.int .i64 0))⟩,
 ⟨none, some 45, .pick (.t 42) (.t 44) (.v (.bool false))⟩,
 ⟨none, some 46, .mv none (.t 45)⟩,
 ⟨some (46, true), some 47, .mv none (.t 7)⟩,
 ⟨some (46, true), some 48, .bin [] .eql (.t 47) (.v (.int .i64 0))⟩,
 ⟨none, some 49, .pick (.t 46) (.t 48) (.v (.bool false))⟩,
 ⟨none, some 50, .mv none (.t 49)⟩,
 ⟨some (50, true), some 51, .mv (some 1) (.t 6)⟩,
 ⟨some (50, true), some 52, .lenSl (.t 51)⟩,
 ⟨some (50, true), some 53, .bin [] .eql (.t 52) (.v (.int .i64 2))⟩,
 ⟨none, some 54, .pick (.t 50) (.t 53) (.v (.bool false))⟩,
 ⟨none, some 0, .mvS none (.t 54)⟩])
  .ret))))))
theorem k11 {B : Heap} {args : List V} {objs : List Ob} {r : V} {objs' news : List Ob} (h : acwp (COk Tryd.prog B) c11 (initSt args objs) (EndA (tabT tab) [.tmp 0] objs.length (mvOf args objs) [] r objs' news)) (hn : args.length ≤ Tryd.f11.ntmps := by exact Nat.le_of_ble_eq_true rfl) (hlen : objs'.length = objs.length := by rfl) : Ok B 11 args objs r objs' news :=
 callMB tabOk mixed Tryd.func11 Tryd.call11 (hints [] [([], []), ([], []), ([1, 2, 3], [.sub 19 0, .sub 19 1, .sub 19 2, .sub 19 3, .sub 19 4, .sub 19 5, .sub 19 6, .loc 2]), ([], []), ([1, 30], [.sub 19 0, .sub 19 1, .sub 19 2, .sub 19 3, .sub 19 4, .sub 19 5, .sub 19 6]), ([], []), ([0], []), ([], []), ([1, 4, 5], [.sub 19 0, .sub 19 1, .sub 19 2, .sub 19 3, .sub 19 4, .sub 19 5, .sub 19 6]), ([], []), ([4, 5, 6, 7], []), ([], []), ([0], []), ([], [])]) ⟨[0], [], [], [(12, 7)]⟩ (by kernel_rfl) rfl rfl (by decide) hn hlen h
def c12 : AC :=
 (.seq (.reg (.mk [0, 3] [.loc 3] []) [⟨none, some 2, .mvS none (.v .nilp)⟩,
 ⟨none, some 3, .alloc [(.own 2 []), (.own 2 [])]⟩,
 ⟨none, some 4, .mvS none (.v (.bool false))⟩])
  (.seq (.reg (.mk [0, 3, 5] [.sub 9 0, .sub 9 1, .sub 9 2, .sub 9 3, .sub 9 4, .sub 9 5, .sub 9 6, .loc 3] []) [⟨none, some 9, .call [] none 7 24 []⟩,
 ⟨none, some 5, .mvS none (.t 9)⟩])
  (.seq (.reg (.mk [0, 3, 5, 6] [.sub 9 0, .sub 9 1, .sub 9 2, .sub 9 3, .sub 9 4, .sub 9 5, .sub 9 6, .loc 3, .loc 6] []) [⟨none, some 6, .alloc [(.own 2 []), (.own 2 [])]⟩])
  (.seq (.seq (.reg (.mk [0, 3, 5, 6, 11] [.sub 9 0, .sub 9 1, .sub 9 2, .sub 9 3, .sub 9 4, .sub 9 5, .sub 9 6, .loc 3, .loc 6] []) [⟨none, some 10, .mv none (.t 5)⟩,
 ⟨none, some 11, .bin [3] .eql (.t 10) (.v .nilp)⟩])
  (.cond (.t 11) (.seq (.regD (.mk [2, 3, 4] [.sub 9 0, .sub 9 1, .sub 9 2, .sub 9 3, .sub 9 4, .sub 9 5, .sub 9 6, .loc 3] []) [(0, 1)] [⟨none, some 12, .load (some 2) false (.t 6)⟩,
 ⟨none, some 2, .mvS none (.v .nilp)⟩,
 ⟨none, none, .store 2 none (.t 3) (.t 12)⟩,
 ⟨none, some 4, .mvS none (.v (.bool false))⟩])
  .ret) .skip))
  (.seq (.reg (.mk [0, 3, 5, 6] [.sub 9 0, .sub 9 1, .sub 9 2, .sub 9 3, .sub 9 4, .sub 9 5, .sub 9 6, .loc 3, .loc 6] []) [⟨none, some 7, .mvS none (.v (.bool true))⟩])
  (.seq (.seq (.reg (.mk [0, 3, 5, 6, 8] [.sub 9 0, .sub 9 1, .sub 9 2, .sub 9 3, .sub 9 4, .sub 9 5, .sub 9 6, .loc 3, .loc 6] []) [⟨none, some 8, .mvS none (.v (.int .i64 0))⟩])
  (.block 0 (.loop (.mk [0, 3, 5, 6, 8] [.sub 9 0, .sub 9 1, .sub 9 2, .sub 9 3, .sub 9 4, .sub 9 5, .sub 9 6, .loc 3, .loc 6] []) (.seq (.seq (.reg (.mk [0, 3, 5, 6, 8, 20] [.sub 9 0, .sub 9 1, .sub 9 2, .sub 9 3, .sub 9 4, .sub 9 5, .sub 9 6, .loc 3, .loc 6] []) [⟨none, some 13, .mv none (.t 8)⟩,
 ⟨none, some 14, .mv (some 5) (.t 0)⟩,
 ⟨none, some 15, .lenSl (.t 14)⟩,
 ⟨none, some 16, .bin [] .lss (.t 13) (.t 15)⟩,
 ⟨none, some 17, .mv none (.t 16)⟩,
 ⟨some (17, true), some 18, .mv none (.t 8)⟩,
 ⟨some (17, true), some 19, .bin [] .lss (.t 18) (.v (.int .i64 60))⟩,
 ⟨none, some 20, .pick (.t 17) (.t 19) (.v (.bool false))⟩])
  (.cond (.t 20) .skip (.exit 0)))
  (.seq (.block 1 (.seq (.seq (.reg (.mk [0, 3, 5, 6, 8, 29] [.sub 9 0, .sub 9 1, .sub 9 2, .sub 9 3, .sub 9 4, .sub 9 5, .sub 9 6, .loc 3, .loc 6] []) [⟨none, some 23, .mv (some 5) (.t 0)⟩,
 ⟨none, some 24, .mv none (.t 8)⟩,
 ⟨none, some 25, .ia (some 5) none (.t 23) (.t 24)⟩,
 ⟨none, some 26, .fa 2 (.t 25)⟩,
 ⟨none, some 27, .load none false (.t 26)⟩,
 ⟨none, some 28, .lenSl (.t 27)⟩,
 ⟨none, some 29, .bin [] .gtr (.t 28) (.v (.int .i64 20))⟩])
  (.cond (.t 29) (.exit 1) .skip))
  (.seq (.regD (.mk [0, 3, 5, 6, 7, 8] [.sub 9 0, .sub 9 1, .sub 9 2, .sub 9 3, .sub 9 4, .sub 9 5, .sub 9 6, .loc 3, .loc 6] []) [(0, 1), (0, 2), (1, 2), (0, 3), (1, 3), (2, 3), (0, 4), (1, 4), (0, 5), (8, 9), (9, 10)] [⟨none, some 31, .mv none (.t 5)⟩,
 ⟨none, some 32, .load (some 2) false (.t 6)⟩,
 ⟨none, some 33, .mv (some 5) (.t 0)⟩,
 ⟨none, some 34, .mv none (.t 8)⟩,
 ⟨none, some 35, .ia (some 5) none (.t 33) (.t 34)⟩,
 ⟨none, some 36, .load (some 5) false (.t 35)⟩,
 ⟨none, some 37, .call [none, none, none] none 0 29 [.t 31, .t 32, .t 36]⟩,
 ⟨none, some 30, .mv none (.t 37)⟩,
 ⟨none, some 38, .ext (.t 30) 0⟩,
 ⟨none, some 39, .ext (.t 30) 1⟩,
 ⟨none, none, .store 2 none (.t 6) (.t 38)⟩,
 ⟨none, some 7, .mvS none (.t 39)⟩])
  (.seq (.reg (.mk [0, 3, 5, 6, 8, 41] [.sub 9 0, .sub 9 1, .sub 9 2, .sub 9 3, .sub 9 4, .sub 9 5, .sub 9 6, .loc 3, .loc 6] []) [⟨none, some 40, .mv none (.t 7)⟩,
 ⟨none, some 41, .un .not (.t 40)⟩])
  (.cond (.t 41) (.seq (.regD (.mk [2, 3, 4] [.sub 9 0, .sub 9 1, .sub 9 2, .sub 9 3, .sub 9 4, .sub 9 5, .sub 9 6, .loc 3] []) [(0, 1), (1, 2)] [⟨none, some 42, .mvS none (.t 5)⟩,
 ⟨none, some 43, .load (some 2) false (.t 6)⟩,
 ⟨none, some 2, .mvS none (.t 42)⟩,
 ⟨none, none, .store 2 none (.t 3) (.t 43)⟩,
 ⟨none, some 4, .mvS none (.v (.bool false))⟩])
  .ret) .skip)))))
  (.reg (.mk [0, 3, 5, 6, 8] [.sub 9 0, .sub 9 1, .sub 9 2, .sub 9 3, .sub 9 4, .sub 9 5, .sub 9 6, .loc 3, .loc 6] []) [⟨none, some 21, .mv none (.t 8)⟩,
 ⟨none, some 22, .bin [] .add (.t 21) (.v (.int .i64 1))⟩,
 ⟨none, some 8, .mvS none (.t 22)⟩]))))))
  (.seq (.regD (.mk [2, 3, 4] [.sub 9 0, .sub 9 1, .sub 9 2, .sub 9 3, .sub 9 4, .sub 9 5, .sub 9 6, .loc 3] []) [(0, 1), (0, 2), (1, 2), (0, 3), (1, 3), (0, 4), (1, 4), (2, 4), (3, 4), (0, 5), (2, 5), (3, 5), (0, 6), (1, 6), (2, 6), (3, 6), (0, 7), (1, 7), (0, 8), (1, 8), (0, 9), (1, 9), (0, 10), (1, 10), (0, 11), (1, 11), (9, 11), (10, 11), (0, 12), (1, 12), (9, 12), (10, 12), (0, 13), (1, 13), (9, 13), (10, 13), (0, 14), (1, 14), (0, 15), (1, 15), (1, 16), (11, 16), (12, 16), (13, 16), (14, 16), (15, 16), (11, 17), (12, 17), (13, 17), (14, 17), (15, 17)] [⟨none, some 44, .mvS none (.t 5)⟩,
 ⟨none, some 45, .load (some 2) false (.t 6)⟩,
 ⟨none, some 46, .mv none (.t 5)⟩,
 ⟨none, some 47, .call [none] none 0 20 [.t 46]⟩,
 ⟨none, some 48, .fa 0 (.t 6)⟩,
 ⟨none, some 49, .load none false (.t 48)⟩,
 ⟨none, some 50, .lenSl (.t 49)⟩,
 ⟨none, some 51, .bin [] .eql (.t 47) (.t 50)⟩,
 ⟨none, some 52, .mv none (.t 51)⟩,
 ⟨some (52, true), some 53, .mv none (.t 5)⟩,
 ⟨some (52, true), some 54, .call [none] none 0 27 [.t 53]⟩,
 ⟨some (52, true), some 55, .fa 1 (.t 6)⟩,
 ⟨some (52, true), some 56, .load none false (.t 55)⟩,
 ⟨some (52, true), some 57, .lenSl (.t 56)⟩,
 ⟨some (52, true), some 58, .bin [] .eql (.t 54) (.t 57)⟩,
 ⟨none, some 59, .pick (.t 52) (.t 58) (.v (.bool false))⟩,
 ⟨none, some 2, .mvS none (.t 44)⟩,
 ⟨none, none, .store 2 none (.t 3) (.t 45)⟩,
 ⟨none, some 4, .mvS none (.t 59)⟩])
  .ret)))))))
theorem k12 {B : Heap} {args : List V} {objs : List Ob} {r : V} {objs' news : List Ob} (h : acwp (COk Tryd.prog B) c12 (initSt args objs) (EndA (tabT tab) [.tmp 2, .cell 3 28, .tmp 4] objs.length (mvOf args objs) [.sub 9 0, .sub 9 1, .sub 9 2, .sub 9 3, .sub 9 4, .sub 9 5, .sub 9 6] r objs' news)) (hn : args.length ≤ Tryd.f12.ntmps := by exact Nat.le_of_ble_eq_true rfl) (hlen : objs'.length = objs.length := by rfl) : Ok B 12 args objs r objs' news :=
 callMB tabOk mixed Tryd.func12 Tryd.call12 (hints [] [([0, 3], [.loc 3]), ([], []), ([0, 3, 5], [.sub 9 0, .sub 9 1, .sub 9 2, .sub 9 3, .sub 9 4, .sub 9 5, .sub 9 6, .loc 3]), ([], []), ([0, 3, 5, 6], [.sub 9 0, .sub 9 1, .sub 9 2, .sub 9 3, .sub 9 4, .sub 9 5, .sub 9 6, .loc 3, .loc 6]), ([], []), ([0, 3, 5, 6, 11], [.sub 9 0, .sub 9 1, .sub 9 2, .sub 9 3, .sub 9 4, .sub 9 5, .sub 9 6, .loc 3, .loc 6]), ([], []), ([2, 3, 4], [.sub 9 0, .sub 9 1, .sub 9 2, .sub 9 3, .sub 9 4, .sub 9 5, .sub 9 6, .loc 3]), ([], []), ([0, 3, 5, 6], [.sub 9 0, .sub 9 1, .sub 9 2, .sub 9 3, .sub 9 4, .sub 9 5, .sub 9 6, .loc 3, .loc 6]), ([], []), ([0, 3, 5, 6, 8], [.sub 9 0, .sub 9 1, .sub 9 2, .sub 9 3, .sub 9 4, .sub 9 5, .sub 9 6, .loc 3, .loc 6]), ([], []), ([0, 3, 5, 6, 8, 20], [.sub 9 0, .sub 9 1, .sub 9 2, .sub 9 3, .sub 9 4, .sub 9 5, .sub 9 6, .loc 3, .loc 6]), ([0, 3, 5, 6, 8], [.sub 9 0, .sub 9 1, .sub 9 2, .sub 9 3, .sub 9 4, .sub 9 5, .sub 9 6, .loc 3, .loc 6]), ([0, 3, 5, 6, 8], [.sub 9 0, .sub 9 1, .sub 9 2, .sub 9 3, .sub 9 4, .sub 9 5, .sub 9 6, .loc 3, .loc 6]), ([], []), ([0, 3, 5, 6, 8, 29], [.sub 9 0, .sub 9 1, .sub 9 2, .sub 9 3, .sub 9 4, .sub 9 5, .sub 9 6, .loc 3, .loc 6]), ([], []), ([0, 3, 5, 6, 7, 8], [.sub 9 0, .sub 9 1, .sub 9 2, .sub 9 3, .sub 9 4, .sub 9 5, .sub 9 6, .loc 3, .loc 6]), ([], []), ([0, 3, 5, 6, 8, 41], [.sub 9 0, .sub 9 1, .sub 9 2, .sub 9 3, .sub 9 4, .sub 9 5, .sub 9 6, .loc 3, .loc 6]), ([], []), ([2, 3, 4], [.sub 9 0, .sub 9 1, .sub 9 2, .sub 9 3, .sub 9 4, .sub 9 5, .sub 9 6, .loc 3]), ([], []), ([2, 3, 4], [.sub 9 0, .sub 9 1, .sub 9 2, .sub 9 3, .sub 9 4, .sub 9 5, .sub 9 6, .loc 3]), ([], [])]) ⟨[2, 3, 4], [], [], [(24, 7)]⟩ (by kernel_rfl) rfl rfl (by decide) hn hlen h
def c29 : AC :=
 (.seq (.reg (.mk [0, 4, 5, 6] [.par 0, .par 1, .par 2, .par 3, .par 4, .par 5, .par 6, .loc 4, .loc 5, .loc 6] [.par 2, .par 3, .par 4, .par 6]) [⟨none, some 4, .box 2 [(.own 2 []), (.own 2 [])] (.t 1)⟩,
 ⟨none, some 5, .box 5 [.int .i64 0, (.str []), (.own 1 []), .int .i64 0, .int .i64 0] (.t 2)⟩,
 ⟨none, some 6, .alloc [(.own 2 []), (.own 2 [])]⟩,
 ⟨none, some 7, .mvS none (.v (.bool false))⟩])
  (.seq (.seq (.reg (.mk [0, 4, 5, 6, 20] [.par 0, .par 1, .par 2, .par 3, .par 4, .par 5, .par 6, .loc 4, .loc 5, .loc 6] [.par 2, .par 3, .par 4, .par 6]) [⟨none, some 19, .fa 0 (.t 5)⟩,
 ⟨none, some 20, .load none false (.t 19)⟩])
  (.block 0 (.seq (.reg (.mk [0, 4, 5, 6, 20, 21] [.par 0, .par 1, .par 2, .par 3, .par 4, .par 5, .par 6, .loc 4, .loc 5, .loc 6] [.par 2, .par 3, .par 4, .par 6]) [⟨none, some 22, .bin [] .eql (.t 20) (.v (.int .i64 0))⟩,
 ⟨none, some 21, .mvS none (.t 22)⟩])
  (.cond (.t 21) (.seq (.reg (.mk [0, 5, 6, 8, 9, 10] [.par 0, .par 1, .par 2, .par 3, .par 4, .par 5, .par 6, .loc 5, .loc 6, .loc 8] [.par 2, .par 3, .par 4, .par 6]) [⟨none, some 24, .load (some 2) false (.t 4)⟩,
 ⟨none, some 25, .fa 1 (.t 5)⟩,
 ⟨none, some 26, .load none false (.t 25)⟩,
 ⟨none, some 27, .fa 2 (.t 5)⟩,
 ⟨none, some 28, .load none false (.t 27)⟩,
 ⟨none, some 29, .call [none, none, (some 1)] none 0 42 [.t 24, .t 26, .t 28]⟩,
 ⟨none, some 23, .mv none (.t 29)⟩,
 ⟨none, some 30, .ext (.t 23) 0⟩,
 ⟨none, some 31, .ext (.t 23) 1⟩,
 ⟨none, some 32, .ext (.t 23) 2⟩,
 ⟨none, some 8, .alloc [(.own 2 []), (.own 2 [])]⟩,
 ⟨none, none, .store 2 none (.t 8) (.t 30)⟩,
 ⟨none, some 9, .mvS none (.t 31)⟩,
 ⟨none, some 10, .mvS none (.t 32)⟩])
  (.seq (.reg (.mk [6, 8, 9, 10, 11, 12] [.par 0, .par 1, .par 2, .par 3, .par 4, .par 5, .par 6, .loc 6, .loc 8] [.par 2, .par 3, .par 4, .par 6]) [⟨none, some 34, .mv none (.t 0)⟩,
 ⟨none, some 35, .fa 1 (.t 5)⟩,
 ⟨none, some 36, .load none false (.t 35)⟩,
 ⟨none, some 37, .fa 2 (.t 5)⟩,
 ⟨none, some 38, .load none false (.t 37)⟩,
 ⟨none, some 39, .call [none, none, (some 1)] none 0 18 [.t 34, .t 36, .t 38]⟩,
 ⟨none, some 33, .mv none (.t 39)⟩,
 ⟨none, some 40, .ext (.t 33) 0⟩,
 ⟨none, some 41, .ext (.t 33) 1⟩,
 ⟨none, some 11, .mvS none (.t 40)⟩,
 ⟨none, some 12, .mvS none (.t 41)⟩])
  (.seq (.reg (.mk [6, 7] [.par 0, .par 1, .par 2, .par 3, .par 4, .par 5, .par 6, .loc 6] [.par 2, .par 3, .par 4, .par 6]) [⟨none, some 42, .load (some 2) false (.t 8)⟩,
 ⟨none, some 43, .mv none (.t 11)⟩,
 ⟨none, some 44, .mv none (.t 9)⟩,
 ⟨none, some 45, .bin [] .eql (.t 43) (.t 44)⟩,
 ⟨none, some 46, .mv none (.t 45)⟩,
 ⟨some (46, true), some 47, .mv none (.t 12)⟩,
 ⟨some (46, true), some 48, .mv none (.t 10)⟩,
 ⟨some (46, true), some 49, .bin [] .eql (.t 47) (.t 48)⟩,
 ⟨none, some 50, .pick (.t 46) (.t 49) (.v (.bool false))⟩,
 ⟨none, none, .store 2 none (.t 6) (.t 42)⟩,
 ⟨none, some 7, .mvS none (.t 50)⟩])
  .ret))) (.seq (.reg (.mk [0, 4, 5, 6, 20, 51] [.par 0, .par 1, .par 2, .par 3, .par 4, .par 5, .par 6, .loc 4, .loc 5, .loc 6] [.par 2, .par 3, .par 4, .par 6]) [⟨none, some 52, .bin [] .eql (.t 20) (.v (.int .i64 1))⟩,
 ⟨none, some 51, .mvS none (.t 52)⟩])
  (.cond (.t 51) (.seq (.reg (.mk [0, 5, 6, 13, 14, 15] [.par 0, .par 1, .par 2, .par 3, .par 4, .par 5, .par 6, .loc 5, .loc 6, .loc 13] [.par 2, .par 3, .par 4, .par 6]) [⟨none, some 54, .load (some 2) false (.t 4)⟩,
 ⟨none, some 55, .fa 3 (.t 5)⟩,
 ⟨none, some 56, .load none false (.t 55)⟩,
 ⟨none, some 57, .fa 4 (.t 5)⟩,
 ⟨none, some 58, .load none false (.t 57)⟩,
 ⟨none, some 59, .call [none, none, none] none 0 43 [.t 54, .t 56, .t 58]⟩,
 ⟨none, some 53, .mv none (.t 59)⟩,
 ⟨none, some 60, .ext (.t 53) 0⟩,
 ⟨none, some 61, .ext (.t 53) 1⟩,
 ⟨none, some 62, .ext (.t 53) 2⟩,
 ⟨none, some 13, .alloc [(.own 2 []), (.own 2 [])]⟩,
 ⟨none, none, .store 2 none (.t 13) (.t 60)⟩,
 ⟨none, some 14, .mvS none (.t 61)⟩,
 ⟨none, some 15, .mvS none (.t 62)⟩])
  (.seq (.reg (.mk [6, 13, 14, 15, 16, 17] [.par 0, .par 1, .par 2, .par 3, .par 4, .par 5, .par 6, .loc 6, .loc 13] [.par 2, .par 3, .par 4, .par 6]) [⟨none, some 64, .mv none (.t 0)⟩,
 ⟨none, some 65, .fa 3 (.t 5)⟩,
 ⟨none, some 66, .load none false (.t 65)⟩,
 ⟨none, some 67, .fa 4 (.t 5)⟩,
 ⟨none, some 68, .load none false (.t 67)⟩,
 ⟨none, some 69, .call [none, none, none] none 0 25 [.t 64, .t 66, .t 68]⟩,
 ⟨none, some 63, .mv none (.t 69)⟩,
 ⟨none, some 70, .ext (.t 63) 0⟩,
 ⟨none, some 71, .ext (.t 63) 1⟩,
 ⟨none, some 16, .mvS none (.t 70)⟩,
 ⟨none, some 17, .mvS none (.t 71)⟩])
  (.seq (.reg (.mk [6, 7] [.par 0, .par 1, .par 2, .par 3, .par 4, .par 5, .par 6, .loc 6] [.par 2, .par 3, .par 4, .par 6]) [⟨none, some 72, .load (some 2) false (.t 13)⟩,
 ⟨none, some 73, .mv none (.t 16)⟩,
 ⟨none, some 74, .mv none (.t 14)⟩,
 ⟨none, some 75, .bin [] .eql (.t 73) (.t 74)⟩,
 ⟨none, some 76, .mv none (.t 75)⟩,
 ⟨some (76, true), some 77, .mv none (.t 17)⟩,
 ⟨some (76, true), some 78, .mv none (.t 15)⟩,
 ⟨some (76, true), some 79, .bin [] .eql (.t 77) (.t 78)⟩,
 ⟨none, some 80, .pick (.t 76) (.t 79) (.v (.bool false))⟩,
 ⟨none, none, .store 2 none (.t 6) (.t 72)⟩,
 ⟨none, some 7, .mvS none (.t 80)⟩])
  .ret))) (.seq (.reg (.mk [0, 4, 5, 6, 81] [.par 0, .par 1, .par 2, .par 3, .par 4, .par 5, .par 6, .loc 4, .loc 5, .loc 6] [.par 2, .par 3, .par 4, .par 6]) [⟨none, some 82, .bin [] .eql (.t 20) (.v (.int .i64 2))⟩,
 ⟨none, some 81, .mvS none (.t 82)⟩])
  (.cond (.t 81) (.seq (.reg (.mk [4, 5, 6, 18] [.par 0, .par 1, .par 2, .par 3, .par 4, .par 5, .par 6, .loc 4, .loc 5, .loc 6] [.par 2, .par 3, .par 4, .par 6]) [⟨none, some 83, .mv none (.t 0)⟩,
 ⟨none, some 84, .fa 3 (.t 5)⟩,
 ⟨none, some 85, .load none false (.t 84)⟩,
 ⟨none, some 86, .call [none, none] none 0 26 [.t 83, .t 85]⟩,
 ⟨none, some 18, .mvS none (.t 86)⟩])
  (.seq (.seq (.reg (.mk [4, 5, 6, 18, 97] [.par 0, .par 1, .par 2, .par 3, .par 4, .par 5, .par 6, .loc 4, .loc 5, .loc 6] [.par 2, .par 3, .par 4, .par 6]) [⟨none, some 87, .fa 3 (.t 5)⟩,
 ⟨none, some 88, .load none false (.t 87)⟩,
 ⟨none, some 89, .bin [] .lss (.t 88) (.v (.int .i64 0))⟩,
 ⟨none, some 90, .mv none (.t 89)⟩,
 ⟨some (90, false), some 91, .fa 3 (.t 5)⟩,
 ⟨some (90, false), some 92, .load none false (.t 91)⟩,
 ⟨some (90, false), some 93, .fa 1 (.t 4)⟩,
 ⟨some (90, false), some 94, .load none false (.t 93)⟩,
 ⟨some (90, false), some 95, .lenSl (.t 94)⟩,
 ⟨some (90, false), some 96, .bin [] .gtr (.t 92) (.t 95)⟩,
 ⟨none, some 97, .pick (.t 90) (.v (.bool true)) (.t 96)⟩])
  (.cond (.t 97) (.seq (.reg (.mk [6, 7] [.par 0, .par 1, .par 2, .par 3, .par 4, .par 5, .par 6, .loc 6] [.par 2, .par 3, .par 4, .par 6]) [⟨none, some 98, .load (some 2) false (.t 4)⟩,
 ⟨none, some 99, .mv none (.t 18)⟩,
 ⟨none, some 100, .bin [] .eql (.t 99) (.v (.int .i64 1))⟩,
 ⟨none, none, .store 2 none (.t 6) (.t 98)⟩,
 ⟨none, some 7, .mvS none (.t 100)⟩])
  .ret) .skip))
  (.seq (.regD (.mk [6, 7] [.par 0, .par 1, .par 2, .par 3, .par 4, .par 5, .par 6, .loc 6] [.par 2, .par 3, .par 4, .par 6]) [(0, 2), (1, 2), (0, 3), (0, 4), (1, 4), (2, 4), (3, 4), (0, 5), (2, 5), (0, 6), (1, 6), (0, 8), (1, 8), (2, 8), (3, 8), (4, 8), (5, 8), (6, 8), (7, 8), (0, 9), (1, 9), (2, 9), (3, 9), (4, 9), (5, 9), (6, 9), (7, 9), (8, 10), (9, 10)] [⟨none, some 101, .fa 0 (.t 4)⟩,
 ⟨none, some 102, .load none false (.t 101)⟩,
 ⟨none, some 103, .fa 1 (.t 4)⟩,
 ⟨none, some 104, .load none false (.t 103)⟩,
 ⟨none, some 105, .fa 3 (.t 5)⟩,
 ⟨none, some 106, .load none false (.t 105)⟩,
 ⟨none, some 107, .slc false (some 2) false (.t 104) none (some (.t 106))⟩,
 ⟨none, some 108, .build [(0, 1), (1, 1)] [.nils, .nils] [0, 1] [.t 102, .t 107]⟩,
 ⟨none, some 109, .mv none (.t 18)⟩,
 ⟨none, some 110, .bin [] .eql (.t 109) (.v (.int .i64 0))⟩,
 ⟨none, none, .store 2 none (.t 6) (.t 108)⟩,
 ⟨none, some 7, .mvS none (.t 110)⟩])
  .ret))) .skip))))))))
  (.seq (.reg (.mk [6, 7] [.par 0, .par 1, .par 2, .par 3, .par 4, .par 5, .par 6, .loc 6] [.par 2, .par 3, .par 4, .par 6]) [⟨none, some 111, .load (some 2) false (.t 4)⟩,
 ⟨none, none, .store 2 none (.t 6) (.t 111)⟩,
 ⟨none, some 7, .mvS none (.v (.bool true))⟩])
  .ret)))
theorem k29 {B : Heap} {args : List V} {objs : List Ob} {r : V} {objs' news : List Ob} (h : acwp (COk Tryd.prog B) c29 (initSt args objs) (EndA (tabT tab) [.cell 6 28, .tmp 7] objs.length (mvOf args objs) [] r objs' news)) (hn : args.length ≤ Tryd.f29.ntmps := by exact Nat.le_of_ble_eq_true rfl) (hlen : objs'.length = objs.length := by rfl) : Ok B 29 args objs r objs' news :=
 callMB tabOk mixed Tryd.func29 Tryd.call29 (hints [.par 2, .par 3, .par 4, .par 6] [([0, 4, 5, 6], [.par 0, .par 1, .par 2, .par 3, .par 4, .par 5, .par 6, .loc 4, .loc 5, .loc 6]), ([], []), ([0, 4, 5, 6, 20], [.par 0, .par 1, .par 2, .par 3, .par 4, .par 5, .par 6, .loc 4, .loc 5, .loc 6]), ([], []), ([0, 4, 5, 6, 20, 21], [.par 0, .par 1, .par 2, .par 3, .par 4, .par 5, .par 6, .loc 4, .loc 5, .loc 6]), ([], []), ([0, 5, 6, 8, 9, 10], [.par 0, .par 1, .par 2, .par 3, .par 4, .par 5, .par 6, .loc 5, .loc 6, .loc 8]), ([], []), ([6, 8, 9, 10, 11, 12], [.par 0, .par 1, .par 2, .par 3, .par 4, .par 5, .par 6, .loc 6, .loc 8]), ([], []), ([6, 7], [.par 0, .par 1, .par 2, .par 3, .par 4, .par 5, .par 6, .loc 6]), ([], []), ([0, 4, 5, 6, 20, 51], [.par 0, .par 1, .par 2, .par 3, .par 4, .par 5, .par 6, .loc 4, .loc 5, .loc 6]), ([], []), ([0, 5, 6, 13, 14, 15], [.par 0, .par 1, .par 2, .par 3, .par 4, .par 5, .par 6, .loc 5, .loc 6, .loc 13]), ([], []), ([6, 13, 14, 15, 16, 17], [.par 0, .par 1, .par 2, .par 3, .par 4, .par 5, .par 6, .loc 6, .loc 13]), ([], []), ([6, 7], [.par 0, .par 1, .par 2, .par 3, .par 4, .par 5, .par 6, .loc 6]), ([], []), ([0, 4, 5, 6, 81], [.par 0, .par 1, .par 2, .par 3, .par 4, .par 5, .par 6, .loc 4, .loc 5, .loc 6]), ([], []), ([4, 5, 6, 18], [.par 0, .par 1, .par 2, .par 3, .par 4, .par 5, .par 6, .loc 4, .loc 5, .loc 6]), ([], []), ([4, 5, 6, 18, 97], [.par 0, .par 1, .par 2, .par 3, .par 4, .par 5, .par 6, .loc 4, .loc 5, .loc 6]), ([], []), ([6, 7], [.par 0, .par 1, .par 2, .par 3, .par 4, .par 5, .par 6, .loc 6]), ([], []), ([6, 7], [.par 0, .par 1, .par 2, .par 3, .par 4, .par 5, .par 6, .loc 6]), ([], []), ([6, 7], [.par 0, .par 1, .par 2, .par 3, .par 4, .par 5, .par 6, .loc 6]), ([], [])]) ⟨[6, 7], [], [], []⟩ (by kernel_rfl) rfl rfl (by decide) hn hlen h
end Go.Proofs.YtjabgfnljbnmmaaDoor
