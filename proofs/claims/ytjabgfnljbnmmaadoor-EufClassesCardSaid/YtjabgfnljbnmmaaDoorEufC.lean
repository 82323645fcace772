/- A part of the proof of a law of this seat: no condition. -/
import Derived.Test.YtjabgfnljbnmmaaDoorT1e
import Derived.Test.YtjabgfnljbnmmaaDoorA8
namespace Go.Proofs.YtjabgfnljbnmmaaDoor
open Go.Ax
abbrev qC0 : List Oid := [.par 0, .par 1, .par 2, .par 3, .par 4, .par 5, .par 6]
abbrev qC1 : List Oid := [.par 2, .par 3, .par 4, .par 6]
def c13 : AC :=
 (.seq (.reg (.mk [0, 1, 2] [.par 0, .par 1, .par 2, .par 3, .par 4, .par 5, .par 6] [.par 2, .par 3, .par 4, .par 6]) [⟨none, some 6, .mvS (some 1) (.v .nils)⟩,
 ⟨none, some 7, .mvS none (.v (.int .i64 0))⟩])
  (.seq (.seq (.reg (.mk [0, 1, 2, 17] [.par 0, .par 1, .par 2, .par 3, .par 4, .par 5, .par 6] [.par 2, .par 3, .par 4, .par 6]) [⟨none, some 12, .mv none (.t 0)⟩,
 ⟨none, some 13, .mv none (.t 1)⟩,
 ⟨none, some 14, .mv none (.t 2)⟩,
 ⟨none, some 15, .buildSl 1 [.t 13, .t 14]⟩,
 ⟨none, some 16, .call [none, (some 1)] none 0 30 [.t 12, .t 15]⟩,
 ⟨none, some 17, .un .not (.t 16)⟩])
  (.cond (.t 17) (.seq (.reg (.mk [6, 7] [.par 0, .par 1, .par 2, .par 3, .par 4, .par 5, .par 6] [.par 2, .par 3, .par 4, .par 6]) [⟨none, some 6, .mvS (some 1) (.v .nils)⟩,
 ⟨none, some 7, .mvS none (.v (.int .i64 50))⟩])
  .ret) .skip))
  (.seq (.seq (.reg (.mk [0, 1, 2, 24] [.par 0, .par 1, .par 2, .par 3, .par 4, .par 5, .par 6] [.par 2, .par 3, .par 4, .par 6]) [⟨none, some 18, .mv none (.t 0)⟩,
 ⟨none, some 19, .mv none (.t 1)⟩,
 ⟨none, some 20, .call [none, none] none 0 31 [.t 18, .t 19]⟩,
 ⟨none, some 21, .mv none (.t 0)⟩,
 ⟨none, some 22, .mv none (.t 2)⟩,
 ⟨none, some 23, .call [none, none] none 0 31 [.t 21, .t 22]⟩,
 ⟨none, some 24, .bin [] .neq (.t 20) (.t 23)⟩])
  (.cond (.t 24) (.seq (.reg (.mk [6, 7] [.par 0, .par 1, .par 2, .par 3, .par 4, .par 5, .par 6] [.par 2, .par 3, .par 4, .par 6]) [⟨none, some 6, .mvS (some 1) (.v .nils)⟩,
 ⟨none, some 7, .mvS none (.v (.int .i64 51))⟩])
  .ret) .skip))
  (.seq (.reg (.mk [1, 2, 8] [.par 0, .par 1, .par 2, .par 3, .par 4, .par 5, .par 6, .loc 8, .loc 26, .loc 32] [.par 2, .par 3, .par 4, .par 6]) [⟨none, some 25, .mv none (.t 0)⟩,
    ⟨none, (some 26), .mkMap⟩,
 ⟨none, some 27, .mv none (.t 0)⟩,
 ⟨none, some 28, .nilc (.t 27)⟩,
 ⟨none, some 29, .fa 2 (.t 28)⟩,
 ⟨none, some 30, .load none false (.t 29)⟩,
 ⟨none, some 31, .lenSl (.t 30)⟩,
 ⟨none, some 32, .mkSl 1 [.bool false] (.t 31) (.t 31)⟩,
 ⟨none, some 33, .build [(0, 1), (1, 1), (2, 1)] [.nilp, .any, (.own 1 [])] [0, 1, 2] [.t 25, .t 26, .t 32]⟩,
 ⟨none, some 8, .alloc [.nilp, .any, (.own 1 [])]⟩,
 ⟨none, none, .store 3 none (.t 8) (.t 33)⟩])
  (.seq (.reg (.mk [8] [.par 0, .par 1, .par 2, .par 3, .par 4, .par 5, .par 6, .loc 8, .loc 26, .loc 32] [.par 2, .par 3, .par 4, .par 6]) [⟨none, some 34, .mv none (.t 1)⟩,
 ⟨none, some 35, .mv none (.t 2)⟩,
 ⟨none, some 36, .build [(0, 1), (1, 1)] [.int .i64 0, .int .i64 0] [0, 1] [.t 34, .t 35]⟩,
 ⟨none, some 37, .buildMu 2 [.int .i64 0, .int .i64 0] [.t 36]⟩,
 ⟨none, some 38, .call [none, (some 2)] none 0 32 [.t 8, .t 37]⟩])
  (.seq (.reg (.mk [8, 9] [.par 0, .par 1, .par 2, .par 3, .par 4, .par 5, .par 6, .loc 8, .loc 26, .loc 32] [.par 2, .par 3, .par 4, .par 6]) [⟨none, some 9, .mvS (some 1) (.v .nils)⟩])
  (.seq (.seq (.reg (.mk [9, 40, 41, 42] [.par 0, .par 1, .par 2, .par 3, .par 4, .par 5, .par 6, .loc 26, .loc 32] [.par 2, .par 3, .par 4, .par 6]) [⟨none, some 39, .fa 2 (.t 8)⟩,
 ⟨none, some 40, .load none false (.t 39)⟩,
 ⟨none, some 41, .lenSl (.t 40)⟩,
 ⟨none, some 42, .mv none (.v (.int .i64 0))⟩])
  (.block 0 (.loop (.mk [9, 40, 41, 42] [.par 0, .par 1, .par 2, .par 3, .par 4, .par 5, .par 6, .loc 26, .loc 32] [.par 2, .par 3, .par 4, .par 6]) (.seq (.reg (.mk [9, 40, 41, 42, 43] [.par 0, .par 1, .par 2, .par 3, .par 4, .par 5, .par 6, .loc 26, .loc 32] [.par 2, .par 3, .par 4, .par 6]) [⟨none, some 43, .bin [] .lss (.t 42) (.t 41)⟩])
  (.seq (.cond (.t 43) .skip (.exit 0))
  (.seq (.block 1 (.seq (.reg (.mk [9, 10, 11, 40, 41, 42] [.par 0, .par 1, .par 2, .par 3, .par 4, .par 5, .par 6, .loc 26, .loc 32] [.par 2, .par 3, .par 4, .par 6]) [⟨none, some 44, .mv none (.t 42)⟩,
 ⟨none, some 45, .ia (some 1) none (.t 40) (.t 42)⟩,
 ⟨none, some 46, .load none false (.t 45)⟩,
 ⟨none, some 10, .mvS none (.t 44)⟩,
 ⟨none, some 11, .mvS none (.t 46)⟩])
  (.seq (.reg (.mk [9, 10, 40, 41, 42, 47] [.par 0, .par 1, .par 2, .par 3, .par 4, .par 5, .par 6, .loc 26, .loc 32] [.par 2, .par 3, .par 4, .par 6]) [⟨none, some 47, .mv none (.t 11)⟩])
  (.cond (.t 47) (.reg (.mk [9, 40, 41, 42] [.par 0, .par 1, .par 2, .par 3, .par 4, .par 5, .par 6, .loc 26, .loc 32] [.par 2, .par 3, .par 4, .par 6]) [⟨none, some 48, .mvS (some 1) (.t 9)⟩,
 ⟨none, some 49, .mv none (.t 10)⟩,
 ⟨none, some 50, .buildSl 1 [.t 49]⟩,
 ⟨none, some 51, .app 1 8 (.t 48) (.t 50)⟩,
 ⟨none, some 9, .mvS (some 1) (.t 51)⟩]) .skip))))
  (.reg (.mk [9, 40, 41, 42] [.par 0, .par 1, .par 2, .par 3, .par 4, .par 5, .par 6, .loc 26, .loc 32] [.par 2, .par 3, .par 4, .par 6]) [⟨none, some 52, .bin [] .add (.t 42) (.v (.int .i64 1))⟩,
 ⟨none, some 42, .mv none (.t 52)⟩])))))))
  (.seq (.reg (.mk [6, 7] [.par 0, .par 1, .par 2, .par 3, .par 4, .par 5, .par 6] [.par 2, .par 3, .par 4, .par 6]) [⟨none, some 53, .mvS (some 1) (.t 9)⟩,
 ⟨none, some 6, .mvS (some 1) (.t 53)⟩,
 ⟨none, some 7, .mvS none (.v (.int .i64 0))⟩])
  .ret))))))))
theorem k13 {B : Heap} {args : List V} {objs : List Ob} {r : V} {objs' news : List Ob} (h : acwp (COk Tryd.prog B) c13 (initSt args objs) (EndA (tabT tab) [.tmp 6, .tmp 7] objs.length (mvOf args objs) [] r objs' news)) (hn : args.length ≤ Tryd.f13.ntmps := by exact Nat.le_of_ble_eq_true rfl) (hlen : objs'.length = objs.length := by rfl) : Ok B 13 args objs r objs' news :=
 callMB tabOk mixed Tryd.func13 Tryd.call13 (hints [.par 2, .par 3, .par 4, .par 6] [([0, 1, 2], qC0), ([], []), ([0, 1, 2, 17], qC0), ([], []), ([6, 7], qC0), ([], []), ([0, 1, 2, 24], qC0), ([], []), ([6, 7], qC0), ([], []), ([1, 2, 8], [.par 0, .par 1, .par 2, .par 3, .par 4, .par 5, .par 6, .loc 8, .loc 26, .loc 32]), ([], []), ([8], [.par 0, .par 1, .par 2, .par 3, .par 4, .par 5, .par 6, .loc 8, .loc 26, .loc 32]), ([], []), ([8, 9], [.par 0, .par 1, .par 2, .par 3, .par 4, .par 5, .par 6, .loc 8, .loc 26, .loc 32]), ([], []), ([9, 40, 41, 42], [.par 0, .par 1, .par 2, .par 3, .par 4, .par 5, .par 6, .loc 26, .loc 32]), ([], []), ([9, 40, 41, 42, 43], [.par 0, .par 1, .par 2, .par 3, .par 4, .par 5, .par 6, .loc 26, .loc 32]), ([9, 40, 41, 42], [.par 0, .par 1, .par 2, .par 3, .par 4, .par 5, .par 6, .loc 26, .loc 32]), ([9, 10, 11, 40, 41, 42], [.par 0, .par 1, .par 2, .par 3, .par 4, .par 5, .par 6, .loc 26, .loc 32]), ([], []), ([9, 10, 40, 41, 42, 47], [.par 0, .par 1, .par 2, .par 3, .par 4, .par 5, .par 6, .loc 26, .loc 32]), ([], []), ([9, 40, 41, 42], [.par 0, .par 1, .par 2, .par 3, .par 4, .par 5, .par 6, .loc 26, .loc 32]), ([], []), ([9, 40, 41, 42], [.par 0, .par 1, .par 2, .par 3, .par 4, .par 5, .par 6, .loc 26, .loc 32]), ([], []), ([6, 7], qC0), ([], [])]) ⟨[6, 7], [37], [], []⟩ (by kernel_rfl) rfl rfl (by decide) hn hlen h
def c14 : AC :=
 (.seq (.reg (.mk [1, 2] [.loc 2] []) [⟨none, some 2, .box 2 [(.own 2 []), (.own 2 [])] (.t 0)⟩,
 ⟨none, some 4, .mvS none (.v (.bool false))⟩])
  (.seq (.reg (.mk [4] [] []) [⟨none, some 5, .mv none (.t 1)⟩,
 ⟨none, some 6, .bin [] .geq (.t 5) (.v (.int .i64 0))⟩,
 ⟨none, some 7, .mv none (.t 6)⟩,
 ⟨some (7, true), some 8, .mv none (.t 1)⟩,
 ⟨some (7, true), some 9, .fa 0 (.t 2)⟩,
 ⟨some (7, true), some 10, .load none false (.t 9)⟩,
 ⟨some (7, true), some 11, .lenSl (.t 10)⟩,
 ⟨some (7, true), some 12, .bin [] .lss (.t 8) (.t 11)⟩,
 ⟨none, some 13, .pick (.t 7) (.t 12) (.v (.bool false))⟩,
 ⟨none, some 4, .mvS none (.t 13)⟩])
  .ret))
theorem k14 {B : Heap} {args : List V} {objs : List Ob} {r : V} {objs' news : List Ob} (h : acwp (COk Tryd.prog B) c14 (initSt args objs) (EndA (tabT tab) [.tmp 4] objs.length (mvOf args objs) [] r objs' news)) (hn : args.length ≤ Tryd.f14.ntmps := by exact Nat.le_of_ble_eq_true rfl) (hlen : objs'.length = objs.length := by rfl) : Ok B 14 args objs r objs' news :=
 callMB tabOk mixed Tryd.func14 Tryd.call14 (hints [] [([1, 2], [.loc 2]), ([], []), ([4], []), ([], [])]) ⟨[4], [], [], []⟩ (by kernel_rfl) rfl rfl (by decide) hn hlen h
def c15 : AC :=
 (.seq (.reg (.mk [1] [.loc 1] []) [⟨none, some 1, .box 2 [(.own 2 []), (.own 2 [])] (.t 0)⟩,
 ⟨none, some 2, .mvS (some 1) (.v .nils)⟩])
  (.seq (.reg (.mk [1, 3] [.loc 1, .loc 12] []) [⟨none, some 9, .fa 0 (.t 1)⟩,
 ⟨none, some 10, .load none false (.t 9)⟩,
 ⟨none, some 11, .lenSl (.t 10)⟩,
 ⟨none, some 12, .mkSl 8 [.int .i64 0] (.t 11) (.t 11)⟩,
 ⟨none, some 3, .mvS (some 1) (.t 12)⟩])
  (.seq (.seq (.reg (.mk [1, 3, 4] [.loc 1, .loc 12] []) [⟨none, some 4, .mvS none (.v (.int .i64 0))⟩])
  (.block 0 (.loop (.mk [1, 3, 4] [.loc 1, .loc 12] []) (.seq (.seq (.reg (.mk [1, 3, 4, 16] [.loc 1, .loc 12] []) [⟨none, some 13, .mv none (.t 4)⟩,
 ⟨none, some 14, .mv (some 1) (.t 3)⟩,
 ⟨none, some 15, .lenSl (.t 14)⟩,
 ⟨none, some 16, .bin [] .lss (.t 13) (.t 15)⟩])
  (.cond (.t 16) .skip (.exit 0)))
  (.seq (.block 1 (.reg (.mk [1, 3, 4] [.loc 1, .loc 12] []) [⟨none, some 19, .mv (some 1) (.t 3)⟩,
 ⟨none, some 20, .mv none (.t 4)⟩,
 ⟨none, some 21, .mv none (.t 4)⟩,
 ⟨none, some 22, .ia (some 1) none (.t 19) (.t 20)⟩,
 ⟨none, none, .store 1 none (.t 22) (.t 21)⟩]))
  (.reg (.mk [1, 3, 4] [.loc 1, .loc 12] []) [⟨none, some 17, .mv none (.t 4)⟩,
 ⟨none, some 18, .bin [] .add (.t 17) (.v (.int .i64 1))⟩,
 ⟨none, some 4, .mvS none (.t 18)⟩]))))))
  (.seq (.seq (.reg (.mk [1, 3, 5] [.loc 1, .loc 12] []) [⟨none, some 5, .mvS none (.v (.int .i64 0))⟩])
  (.block 2 (.loop (.mk [1, 3, 5] [.loc 1, .loc 12] []) (.seq (.seq (.reg (.mk [1, 3, 5, 27] [.loc 1, .loc 12] []) [⟨none, some 23, .mv none (.t 5)⟩,
 ⟨none, some 24, .fa 1 (.t 1)⟩,
 ⟨none, some 25, .load none false (.t 24)⟩,
 ⟨none, some 26, .lenSl (.t 25)⟩,
 ⟨none, some 27, .bin [] .lss (.t 23) (.t 26)⟩])
  (.cond (.t 27) .skip (.exit 2)))
  (.seq (.block 3 (.regD (.mk [1, 3, 5] [.loc 1, .loc 12] []) [(0, 1), (0, 2), (0, 3), (1, 3), (2, 3), (0, 4), (0, 5), (0, 6), (0, 7), (1, 7), (2, 7), (3, 7), (4, 7), (5, 7), (6, 7), (0, 8), (1, 8), (3, 8), (4, 8), (5, 8), (0, 9), (1, 9), (2, 9), (3, 9), (4, 9), (5, 9), (6, 9), (7, 9), (8, 9), (0, 10), (1, 10), (2, 10), (3, 10), (4, 10), (5, 10), (6, 10), (0, 11), (1, 11), (2, 11), (3, 11), (4, 11), (5, 11), (6, 11), (0, 12), (1, 12), (3, 12), (4, 12), (5, 12)] [⟨none, some 30, .mv (some 1) (.t 3)⟩,
 ⟨none, some 31, .fa 1 (.t 1)⟩,
 ⟨none, some 32, .load none false (.t 31)⟩,
 ⟨none, some 33, .mv none (.t 5)⟩,
 ⟨none, some 34, .ia (some 2) none (.t 32) (.t 33)⟩,
 ⟨none, some 35, .ia none (some (2, 1)) (.t 34) (.v (.int .i64 0))⟩,
 ⟨none, some 36, .load none false (.t 35)⟩,
 ⟨none, some 37, .fa 1 (.t 1)⟩,
 ⟨none, some 38, .load none false (.t 37)⟩,
 ⟨none, some 39, .mv none (.t 5)⟩,
 ⟨none, some 40, .ia (some 2) none (.t 38) (.t 39)⟩,
 ⟨none, some 41, .ia none (some (2, 1)) (.t 40) (.v (.int .i64 1))⟩,
 ⟨none, some 42, .load none false (.t 41)⟩,
 ⟨none, some 43, .call [(some 1), none, none] none 0 33 [.t 30, .t 36, .t 42]⟩]))
  (.reg (.mk [1, 3, 5] [.loc 1, .loc 12] []) [⟨none, some 28, .mv none (.t 5)⟩,
 ⟨none, some 29, .bin [] .add (.t 28) (.v (.int .i64 1))⟩,
 ⟨none, some 5, .mvS none (.t 29)⟩]))))))
  (.seq (.seq (.reg (.mk [1, 3, 6] [.loc 1, .loc 12] []) [⟨none, some 6, .mvS none (.v (.bool true))⟩])
  (.block 4 (.loop (.mk [1, 3, 6] [.loc 1, .loc 12] []) (.seq (.seq (.reg (.mk [1, 3, 44] [.loc 1, .loc 12] []) [⟨none, some 44, .mv none (.t 6)⟩])
  (.cond (.t 44) .skip (.exit 4)))
  (.block 5 (.seq (.reg (.mk [1, 3, 6] [.loc 1, .loc 12] []) [⟨none, some 6, .mvS none (.v (.bool false))⟩])
  (.seq (.reg (.mk [1, 3, 6, 7] [.loc 1, .loc 12] []) [⟨none, some 7, .mvS none (.v (.int .i64 0))⟩])
  (.block 6 (.loop (.mk [1, 3, 6, 7] [.loc 1, .loc 12] []) (.seq (.seq (.reg (.mk [1, 3, 6, 7, 49] [.loc 1, .loc 12] []) [⟨none, some 45, .mv none (.t 7)⟩,
 ⟨none, some 46, .fa 0 (.t 1)⟩,
 ⟨none, some 47, .load none false (.t 46)⟩,
 ⟨none, some 48, .lenSl (.t 47)⟩,
 ⟨none, some 49, .bin [] .lss (.t 45) (.t 48)⟩])
  (.cond (.t 49) .skip (.exit 6)))
  (.seq (.block 7 (.seq (.reg (.mk [1, 3, 6, 7, 8] [.loc 1, .loc 12] []) [⟨none, some 8, .mvS none (.v (.int .i64 0))⟩])
  (.block 8 (.loop (.mk [1, 3, 6, 7, 8] [.loc 1, .loc 12] []) (.seq (.seq (.reg (.mk [1, 3, 6, 7, 8, 54] [.loc 1, .loc 12] []) [⟨none, some 52, .mv none (.t 8)⟩,
 ⟨none, some 53, .mv none (.t 7)⟩,
 ⟨none, some 54, .bin [] .lss (.t 52) (.t 53)⟩])
  (.cond (.t 54) .skip (.exit 8)))
  (.seq (.block 9 (.seq (.regD (.mk [1, 3, 6, 7, 8, 72] [.loc 1, .loc 12] []) [(0, 1), (0, 4), (1, 4), (2, 4), (3, 4), (0, 5), (1, 5), (2, 5), (3, 5), (4, 5), (0, 6), (1, 6), (2, 6), (3, 6), (0, 7), (1, 7), (2, 7), (10, 11), (10, 12), (11, 12), (10, 13), (11, 13), (12, 13)] [⟨none, some 57, .mv (some 1) (.t 3)⟩,
 ⟨none, some 58, .mv none (.t 7)⟩,
 ⟨none, some 59, .ia (some 1) none (.t 57) (.t 58)⟩,
 ⟨none, some 60, .load none false (.t 59)⟩,
 ⟨none, some 61, .mv (some 1) (.t 3)⟩,
 ⟨none, some 62, .mv none (.t 8)⟩,
 ⟨none, some 63, .ia (some 1) none (.t 61) (.t 62)⟩,
 ⟨none, some 64, .load none false (.t 63)⟩,
 ⟨none, some 65, .bin [] .neq (.t 60) (.t 64)⟩,
 ⟨none, some 66, .mv none (.t 65)⟩,
 ⟨some (66, true), some 67, .load (some 2) false (.t 1)⟩,
 ⟨some (66, true), some 68, .mv (some 1) (.t 3)⟩,
 ⟨some (66, true), some 69, .mv none (.t 7)⟩,
 ⟨some (66, true), some 70, .mv none (.t 8)⟩,
 ⟨some (66, true), some 71, .call [none, (some 1), none, none] none 0 34 [.t 67, .t 68, .t 69, .t 70]⟩,
 ⟨none, some 72, .pick (.t 66) (.t 71) (.v (.bool false))⟩])
  (.cond (.t 72) (.seq (.reg (.mk [1, 3, 7, 8] [.loc 1, .loc 12] []) [⟨none, some 73, .mv (some 1) (.t 3)⟩,
 ⟨none, some 74, .mv none (.t 7)⟩,
 ⟨none, some 75, .mv none (.t 8)⟩,
 ⟨none, some 76, .call [(some 1), none, none] none 0 33 [.t 73, .t 74, .t 75]⟩])
  (.reg (.mk [1, 3, 6, 7, 8] [.loc 1, .loc 12] []) [⟨none, some 6, .mvS none (.v (.bool true))⟩])) .skip)))
  (.reg (.mk [1, 3, 6, 7, 8] [.loc 1, .loc 12] []) [⟨none, some 55, .mv none (.t 8)⟩,
 ⟨none, some 56, .bin [] .add (.t 55) (.v (.int .i64 1))⟩,
 ⟨none, some 8, .mvS none (.t 56)⟩])))))))
  (.reg (.mk [1, 3, 6, 7] [.loc 1, .loc 12] []) [⟨none, some 50, .mv none (.t 7)⟩,
 ⟨none, some 51, .bin [] .add (.t 50) (.v (.int .i64 1))⟩,
 ⟨none, some 7, .mvS none (.t 51)⟩]))))))))))))
  (.seq (.reg (.mk [2] [.loc 12] []) [⟨none, some 77, .mvS (some 1) (.t 3)⟩,
 ⟨none, some 2, .mvS (some 1) (.t 77)⟩])
  .ret))))))
theorem k15 {B : Heap} {args : List V} {objs : List Ob} {r : V} {objs' news : List Ob} (h : acwp (COk Tryd.prog B) c15 (initSt args objs) (EndA (tabT tab) [.tmp 2] objs.length (mvOf args objs) [.loc 12] r objs' news)) (hn : args.length ≤ Tryd.f15.ntmps := by exact Nat.le_of_ble_eq_true rfl) (hlen : objs'.length = objs.length := by rfl) : Ok B 15 args objs r objs' news :=
 callMB tabOk mixed Tryd.func15 Tryd.call15 (hints [] [([1], [.loc 1]), ([], []), ([1, 3], [.loc 1, .loc 12]), ([], []), ([1, 3, 4], [.loc 1, .loc 12]), ([], []), ([1, 3, 4, 16], [.loc 1, .loc 12]), ([1, 3, 4], [.loc 1, .loc 12]), ([1, 3, 4], [.loc 1, .loc 12]), ([], []), ([1, 3, 4], [.loc 1, .loc 12]), ([], []), ([1, 3, 5], [.loc 1, .loc 12]), ([], []), ([1, 3, 5, 27], [.loc 1, .loc 12]), ([1, 3, 5], [.loc 1, .loc 12]), ([1, 3, 5], [.loc 1, .loc 12]), ([], []), ([1, 3, 5], [.loc 1, .loc 12]), ([], []), ([1, 3, 6], [.loc 1, .loc 12]), ([], []), ([1, 3, 44], [.loc 1, .loc 12]), ([1, 3, 6], [.loc 1, .loc 12]), ([1, 3, 6], [.loc 1, .loc 12]), ([], []), ([1, 3, 6, 7], [.loc 1, .loc 12]), ([], []), ([1, 3, 6, 7, 49], [.loc 1, .loc 12]), ([1, 3, 6, 7], [.loc 1, .loc 12]), ([1, 3, 6, 7], [.loc 1, .loc 12]), ([], []), ([1, 3, 6, 7, 8], [.loc 1, .loc 12]), ([], []), ([1, 3, 6, 7, 8, 54], [.loc 1, .loc 12]), ([1, 3, 6, 7, 8], [.loc 1, .loc 12]), ([1, 3, 6, 7, 8], [.loc 1, .loc 12]), ([], []), ([1, 3, 6, 7, 8, 72], [.loc 1, .loc 12]), ([], []), ([1, 3, 7, 8], [.loc 1, .loc 12]), ([], []), ([1, 3, 6, 7, 8], [.loc 1, .loc 12]), ([], []), ([2], [.loc 12]), ([], [])]) ⟨[2], [], [], []⟩ (by kernel_rfl) rfl rfl (by decide) hn hlen h
def c18 : AC :=
 (.seq (.reg (.mk [0, 1, 2] [.par 0, .par 1, .par 2, .par 3, .par 4, .par 5, .par 6] [.par 2, .par 3, .par 4, .par 6]) [⟨none, some 6, .mvS none (.v (.int .i64 0))⟩,
 ⟨none, some 7, .mvS none (.v (.int .i64 0))⟩])
  (.seq (.seq (.reg (.mk [0, 1, 2, 14, 15, 16] [.par 0, .par 1, .par 2, .par 3, .par 4, .par 5, .par 6] [.par 2, .par 3, .par 4, .par 6]) [⟨none, some 14, .mv (some 1) (.t 2)⟩,
 ⟨none, some 15, .lenSl (.t 14)⟩,
 ⟨none, some 16, .mv none (.v (.int .i64 0))⟩])
  (.block 0 (.loop (.mk [0, 1, 2, 14, 15, 16] [.par 0, .par 1, .par 2, .par 3, .par 4, .par 5, .par 6] [.par 2, .par 3, .par 4, .par 6]) (.seq (.reg (.mk [0, 1, 2, 14, 15, 16, 17] [.par 0, .par 1, .par 2, .par 3, .par 4, .par 5, .par 6] [.par 2, .par 3, .par 4, .par 6]) [⟨none, some 17, .bin [] .lss (.t 16) (.t 15)⟩])
  (.seq (.cond (.t 17) .skip (.exit 0))
  (.seq (.block 1 (.seq (.reg (.mk [0, 1, 2, 9, 14, 15, 16] [.par 0, .par 1, .par 2, .par 3, .par 4, .par 5, .par 6] [.par 2, .par 3, .par 4, .par 6]) [⟨none, some 18, .ia (some 1) none (.t 14) (.t 16)⟩,
 ⟨none, some 19, .load none false (.t 18)⟩,
 ⟨none, some 9, .mvS none (.t 19)⟩])
  (.seq (.reg (.mk [0, 1, 2, 14, 15, 16, 30] [.par 0, .par 1, .par 2, .par 3, .par 4, .par 5, .par 6] [.par 2, .par 3, .par 4, .par 6]) [⟨none, some 20, .mv none (.t 9)⟩,
 ⟨none, some 21, .bin [] .lss (.t 20) (.v (.int .i64 0))⟩,
 ⟨none, some 22, .mv none (.t 21)⟩,
 ⟨some (22, false), some 23, .mv none (.t 9)⟩,
 ⟨some (22, false), some 24, .mv none (.t 0)⟩,
 ⟨some (22, false), some 25, .nilc (.t 24)⟩,
 ⟨some (22, false), some 26, .fa 0 (.t 25)⟩,
 ⟨some (22, false), some 27, .load none false (.t 26)⟩,
 ⟨some (22, false), some 28, .lenSl (.t 27)⟩,
 ⟨some (22, false), some 29, .bin [] .geq (.t 23) (.t 28)⟩,
 ⟨none, some 30, .pick (.t 22) (.v (.bool true)) (.t 29)⟩])
  (.cond (.t 30) (.seq (.reg (.mk [6, 7] [.par 0, .par 1, .par 2, .par 3, .par 4, .par 5, .par 6] [.par 2, .par 3, .par 4, .par 6]) [⟨none, some 6, .mvS none (.v (.int .i64 0))⟩,
 ⟨none, some 7, .mvS none (.v (.int .i64 50))⟩])
  .ret) .skip))))
  (.reg (.mk [0, 1, 2, 14, 15, 16] [.par 0, .par 1, .par 2, .par 3, .par 4, .par 5, .par 6] [.par 2, .par 3, .par 4, .par 6]) [⟨none, some 31, .bin [] .add (.t 16) (.v (.int .i64 1))⟩,
 ⟨none, some 16, .mv none (.t 31)⟩])))))))
  (.seq (.reg (.mk [0, 1, 2, 10] [.par 0, .par 1, .par 2, .par 3, .par 4, .par 5, .par 6] [.par 2, .par 3, .par 4, .par 6]) [⟨none, some 32, .mv none (.t 1)⟩,
 ⟨none, some 33, .mv (some 1) (.t 2)⟩,
 ⟨none, some 34, .call [none, (some 1)] none 0 36 [.t 32, .t 33]⟩,
 ⟨none, some 10, .mvS none (.t 34)⟩])
  (.seq (.seq (.reg (.mk [0, 1, 2, 10, 11, 12] [.par 0, .par 1, .par 2, .par 3, .par 4, .par 5, .par 6] [.par 2, .par 3, .par 4, .par 6]) [⟨none, some 36, .mv none (.t 0)⟩,
 ⟨none, some 37, .nilc (.t 36)⟩,
 ⟨none, some 38, .fa 1 (.t 37)⟩,
 ⟨none, some 39, .load none false (.t 38)⟩,
 ⟨none, some 40, .mv none (.t 10)⟩,
 ⟨none, some 41, .mlook 4 (.int .i64 0) true (.t 39) (.t 40)⟩,
 ⟨none, some 35, .mv none (.t 41)⟩,
 ⟨none, some 42, .ext (.t 35) 0⟩,
 ⟨none, some 43, .ext (.t 35) 1⟩,
 ⟨none, some 11, .mvS none (.t 42)⟩,
 ⟨none, some 12, .mvS none (.t 43)⟩])
  (.seq (.reg (.mk [0, 1, 2, 10, 11, 44] [.par 0, .par 1, .par 2, .par 3, .par 4, .par 5, .par 6] [.par 2, .par 3, .par 4, .par 6]) [⟨none, some 44, .mv none (.t 12)⟩])
  (.cond (.t 44) (.seq (.reg (.mk [6, 7] [.par 0, .par 1, .par 2, .par 3, .par 4, .par 5, .par 6] [.par 2, .par 3, .par 4, .par 6]) [⟨none, some 45, .mvS none (.t 11)⟩,
 ⟨none, some 6, .mvS none (.t 45)⟩,
 ⟨none, some 7, .mvS none (.v (.int .i64 0))⟩])
  .ret) .skip)))
  (.seq (.seq (.reg (.mk [0, 1, 2, 10, 51] [.par 0, .par 1, .par 2, .par 3, .par 4, .par 5, .par 6] [.par 2, .par 3, .par 4, .par 6]) [⟨none, some 46, .mv none (.t 0)⟩,
 ⟨none, some 47, .nilc (.t 46)⟩,
 ⟨none, some 48, .fa 0 (.t 47)⟩,
 ⟨none, some 49, .load none false (.t 48)⟩,
 ⟨none, some 50, .lenSl (.t 49)⟩,
 ⟨none, some 51, .bin [] .geq (.t 50) (.v (.int .i64 16384))⟩])
  (.cond (.t 51) (.seq (.reg (.mk [6, 7] [.par 0, .par 1, .par 2, .par 3, .par 4, .par 5, .par 6] [.par 2, .par 3, .par 4, .par 6]) [⟨none, some 6, .mvS none (.v (.int .i64 0))⟩,
 ⟨none, some 7, .mvS none (.v (.int .i64 2))⟩])
  .ret) .skip))
  (.seq (.reg (.mk [0, 1, 2, 10, 13] [.par 0, .par 1, .par 2, .par 3, .par 4, .par 5, .par 6] [.par 2, .par 3, .par 4, .par 6]) [⟨none, some 52, .mv none (.t 0)⟩,
 ⟨none, some 53, .nilc (.t 52)⟩,
 ⟨none, some 54, .fa 0 (.t 53)⟩,
 ⟨none, some 55, .load none false (.t 54)⟩,
 ⟨none, some 56, .lenSl (.t 55)⟩,
 ⟨none, some 13, .mvS none (.t 56)⟩])
  (.seq (.regD (.mk [0, 10, 13] [.par 0, .par 1, .par 2, .par 3, .par 4, .par 5, .par 6] [.par 2, .par 3, .par 4, .par 6]) [(0, 1), (0, 2), (0, 3), (0, 4), (0, 5), (1, 5), (2, 5), (3, 5), (4, 5), (0, 6), (1, 6), (2, 6), (3, 6), (4, 6), (5, 6), (0, 7), (1, 7), (2, 7), (3, 7), (4, 7), (5, 7), (0, 8), (1, 8), (2, 8), (3, 8), (4, 8), (0, 9), (1, 9), (2, 9), (3, 9), (4, 9), (0, 10)] [⟨none, some 57, .mv none (.t 0)⟩,
 ⟨none, some 58, .mv none (.t 0)⟩,
 ⟨none, some 59, .nilc (.t 58)⟩,
 ⟨none, some 60, .fa 0 (.t 59)⟩,
 ⟨none, some 61, .load none true (.t 60)⟩,
 ⟨none, some 62, .mv none (.t 1)⟩,
 ⟨none, some 63, .mv (some 1) (.t 2)⟩,
 ⟨none, some 64, .call [(some 1)] none 0 35 [.t 63]⟩,
 ⟨none, some 65, .build [(0, 1), (1, 1)] [(.str []), (.own 1 [])] [0, 1] [.t 62, .t 64]⟩,
 ⟨none, some 66, .buildSl 2 [.t 65]⟩,
 ⟨none, some 67, .app 2 40 (.t 61) (.t 66)⟩,
 ⟨none, some 68, .nilc (.t 57)⟩,
 ⟨none, some 69, .fa 0 (.t 68)⟩,
 ⟨none, none, .store 1 (some 2) (.t 69) (.t 67)⟩])
  (.seq (.reg (.mk [0, 13] [.par 0, .par 1, .par 2, .par 3, .par 4, .par 5, .par 6] [.par 2, .par 3, .par 4, .par 6]) [⟨none, some 70, .mv none (.t 0)⟩,
 ⟨none, some 71, .nilc (.t 70)⟩,
 ⟨none, some 72, .fa 1 (.t 71)⟩,
 ⟨none, some 73, .load none false (.t 72)⟩,
 ⟨none, some 74, .mv none (.t 10)⟩,
 ⟨none, some 75, .mv none (.t 13)⟩,
 ⟨none, none, .mput 4 (.t 73) (.t 74) (.t 75)⟩])
  (.seq (.reg (.mk [13] [.par 0, .par 1, .par 2, .par 3, .par 4, .par 5, .par 6] [.par 2, .par 3, .par 4, .par 6]) [⟨none, some 76, .mv none (.t 0)⟩,
 ⟨none, some 77, .mv none (.t 13)⟩,
 ⟨none, some 78, .call [none, none] none 0 37 [.t 76, .t 77]⟩])
  (.seq (.reg (.mk [6, 7] [.par 0, .par 1, .par 2, .par 3, .par 4, .par 5, .par 6] [.par 2, .par 3, .par 4, .par 6]) [⟨none, some 79, .mvS none (.t 13)⟩,
 ⟨none, some 6, .mvS none (.t 79)⟩,
 ⟨none, some 7, .mvS none (.v (.int .i64 0))⟩])
  .ret))))))))))
theorem k18 {B : Heap} {args : List V} {objs : List Ob} {r : V} {objs' news : List Ob} (h : acwp (COk Tryd.prog B) c18 (initSt args objs) (EndA (tabT tab) [.tmp 6, .tmp 7] objs.length (mvOf args objs) [] r objs' news)) (hn : args.length ≤ Tryd.f18.ntmps := by exact Nat.le_of_ble_eq_true rfl) (hlen : objs'.length = objs.length := by rfl) : Ok B 18 args objs r objs' news :=
 callMB tabOk mixed Tryd.func18 Tryd.call18 (hints [.par 2, .par 3, .par 4, .par 6] [([0, 1, 2], qC0), ([], []), ([0, 1, 2, 14, 15, 16], qC0), ([], []), ([0, 1, 2, 14, 15, 16, 17], qC0), ([0, 1, 2, 14, 15, 16], qC0), ([0, 1, 2, 9, 14, 15, 16], qC0), ([], []), ([0, 1, 2, 14, 15, 16, 30], qC0), ([], []), ([6, 7], qC0), ([], []), ([0, 1, 2, 14, 15, 16], qC0), ([], []), ([0, 1, 2, 10], qC0), ([], []), ([0, 1, 2, 10, 11, 12], qC0), ([], []), ([0, 1, 2, 10, 11, 44], qC0), ([], []), ([6, 7], qC0), ([], []), ([0, 1, 2, 10, 51], qC0), ([], []), ([6, 7], qC0), ([], []), ([0, 1, 2, 10, 13], qC0), ([], []), ([0, 10, 13], qC0), ([], []), ([0, 13], qC0), ([], []), ([13], qC0), ([], []), ([6, 7], qC0), ([], [])]) ⟨[6, 7], [], [], []⟩ (by kernel_rfl) rfl rfl (by decide) hn hlen h
def c19 : AC :=
 (.seq (.reg (.mk [0, 1] [.par 0] []) [⟨none, some 4, .mvS none (.v (.bool false))⟩])
 (.seq (.seq (.reg (.mk [0, 1, 10] [.par 0] []) [⟨none, some 6, .mv (some 1) (.t 0)⟩,
 ⟨none, some 7, .lenSl (.t 6)⟩,
 ⟨none, some 8, .mv (some 1) (.t 1)⟩,
 ⟨none, some 9, .lenSl (.t 8)⟩,
 ⟨none, some 10, .bin [] .neq (.t 7) (.t 9)⟩])
  (.cond (.t 10) (.seq (.reg (.mk [4] [.par 0] []) [⟨none, some 4, .mvS none (.v (.bool false))⟩])
  .ret) .skip))
  (.seq (.seq (.reg (.mk [0, 1, 5] [.par 0] []) [⟨none, some 5, .mvS none (.v (.int .i64 0))⟩])
  (.block 0 (.loop (.mk [0, 1, 5] [.par 0] []) (.seq (.seq (.reg (.mk [0, 1, 5, 14] [.par 0] []) [⟨none, some 11, .mv none (.t 5)⟩,
 ⟨none, some 12, .mv (some 1) (.t 0)⟩,
 ⟨none, some 13, .lenSl (.t 12)⟩,
 ⟨none, some 14, .bin [] .lss (.t 11) (.t 13)⟩])
  (.cond (.t 14) .skip (.exit 0)))
  (.seq (.block 1 (.seq (.regD (.mk [0, 1, 5, 25] [.par 0] []) [(0, 1), (0, 4), (1, 4), (2, 4), (3, 4), (0, 5), (1, 5), (2, 5), (3, 5), (4, 5), (0, 6), (1, 6), (2, 6), (3, 6), (0, 7), (1, 7), (2, 7)] [⟨none, some 17, .mv (some 1) (.t 0)⟩,
 ⟨none, some 18, .mv none (.t 5)⟩,
 ⟨none, some 19, .ia (some 1) none (.t 17) (.t 18)⟩,
 ⟨none, some 20, .load none false (.t 19)⟩,
 ⟨none, some 21, .mv (some 1) (.t 1)⟩,
 ⟨none, some 22, .mv none (.t 5)⟩,
 ⟨none, some 23, .ia (some 1) none (.t 21) (.t 22)⟩,
 ⟨none, some 24, .load none false (.t 23)⟩,
 ⟨none, some 25, .bin [] .neq (.t 20) (.t 24)⟩])
  (.cond (.t 25) (.seq (.reg (.mk [4] [.par 0] []) [⟨none, some 4, .mvS none (.v (.bool false))⟩])
  .ret) .skip)))
  (.reg (.mk [0, 1, 5] [.par 0] []) [⟨none, some 15, .mv none (.t 5)⟩,
 ⟨none, some 16, .bin [] .add (.t 15) (.v (.int .i64 1))⟩,
 ⟨none, some 5, .mvS none (.t 16)⟩]))))))
  (.seq (.reg (.mk [4] [.par 0] []) [⟨none, some 4, .mvS none (.v (.bool true))⟩])
  .ret))))
theorem k19 {B : Heap} {args : List V} {objs : List Ob} {r : V} {objs' news : List Ob} (h : acwp (COk Tryd.prog B) c19 (initSt args objs) (EndA (tabT tab) [.tmp 4] objs.length (mvOf args objs) [] r objs' news)) (hn : args.length ≤ Tryd.f19.ntmps := by exact Nat.le_of_ble_eq_true rfl) (hlen : objs'.length = objs.length := by rfl) : Ok B 19 args objs r objs' news :=
 callMB tabOk mixed Tryd.func19 Tryd.call19 (hints [] [([0, 1], [.par 0]), ([], []), ([0, 1, 10], [.par 0]), ([], []), ([4], [.par 0]), ([], []), ([0, 1, 5], [.par 0]), ([], []), ([0, 1, 5, 14], [.par 0]), ([0, 1, 5], [.par 0]), ([0, 1, 5], [.par 0]), ([], []), ([0, 1, 5, 25], [.par 0]), ([], []), ([4], [.par 0]), ([], []), ([4], [.par 0]), ([], [])]) ⟨[4], [], [], []⟩ (by kernel_rfl) rfl rfl (by decide) hn hlen h
def c20 : AC :=
 (.seq (.reg (.mk [0] [.par 0, .par 1, .par 2, .par 3, .par 4, .par 5, .par 6] [.par 2, .par 3, .par 4, .par 6]) [⟨none, some 2, .mvS none (.v (.int .i64 0))⟩])
 (.seq (.reg (.mk [2] [.par 0, .par 1, .par 2, .par 3, .par 4, .par 5, .par 6] [.par 2, .par 3, .par 4, .par 6]) [⟨none, some 3, .mv none (.t 0)⟩,
 ⟨none, some 4, .nilc (.t 3)⟩,
 ⟨none, some 5, .fa 0 (.t 4)⟩,
 ⟨none, some 6, .load none false (.t 5)⟩,
 ⟨none, some 7, .lenSl (.t 6)⟩,
 ⟨none, some 2, .mvS none (.t 7)⟩])
  .ret))
theorem k20 {B : Heap} {args : List V} {objs : List Ob} {r : V} {objs' news : List Ob} (h : acwp (COk Tryd.prog B) c20 (initSt args objs) (EndA (tabT tab) [.tmp 2] objs.length (mvOf args objs) [] r objs' news)) (hn : args.length ≤ Tryd.f20.ntmps := by exact Nat.le_of_ble_eq_true rfl) (hlen : objs'.length = objs.length := by rfl) : Ok B 20 args objs r objs' news :=
 callMB tabOk mixed Tryd.func20 Tryd.call20 (hints [.par 2, .par 3, .par 4, .par 6] [([0], qC0), ([], []), ([2], qC0), ([], [])]) ⟨[2], [], [], []⟩ (by kernel_rfl) rfl rfl (by decide) hn hlen h
def c21 : AC :=
 (.seq (.reg (.mk [0, 1, 2] [.par 0, .par 1, .par 2, .par 3, .par 4, .par 5, .par 6] [.par 2, .par 3, .par 4, .par 6]) [⟨none, some 6, .mvS none (.v (.bool false))⟩,
 ⟨none, some 7, .mvS none (.v (.int .i64 0))⟩])
  (.seq (.seq (.reg (.mk [0, 1, 2, 13] [.par 0, .par 1, .par 2, .par 3, .par 4, .par 5, .par 6] [.par 2, .par 3, .par 4, .par 6]) [⟨none, some 8, .mv none (.t 0)⟩,
 ⟨none, some 9, .mv none (.t 1)⟩,
 ⟨none, some 10, .mv none (.t 2)⟩,
 ⟨none, some 11, .buildSl 1 [.t 9, .t 10]⟩,
 ⟨none, some 12, .call [none, (some 1)] none 0 30 [.t 8, .t 11]⟩,
 ⟨none, some 13, .un .not (.t 12)⟩])
  (.cond (.t 13) (.seq (.reg (.mk [6, 7] [.par 0, .par 1, .par 2, .par 3, .par 4, .par 5, .par 6] [.par 2, .par 3, .par 4, .par 6]) [⟨none, some 6, .mvS none (.v (.bool false))⟩,
 ⟨none, some 7, .mvS none (.v (.int .i64 50))⟩])
  .ret) .skip))
  (.seq (.reg (.mk [6, 7] [.par 0, .par 1, .par 2, .par 3, .par 4, .par 5, .par 6] [.par 2, .par 3, .par 4, .par 6]) [⟨none, some 14, .mv none (.t 0)⟩,
 ⟨none, some 15, .mv none (.t 1)⟩,
 ⟨none, some 16, .call [none, none] none 0 31 [.t 14, .t 15]⟩,
 ⟨none, some 17, .mv none (.t 0)⟩,
 ⟨none, some 18, .mv none (.t 2)⟩,
 ⟨none, some 19, .call [none, none] none 0 31 [.t 17, .t 18]⟩,
 ⟨none, some 20, .bin [] .eql (.t 16) (.t 19)⟩,
 ⟨none, some 6, .mvS none (.t 20)⟩,
 ⟨none, some 7, .mvS none (.v (.int .i64 0))⟩])
  .ret)))
theorem k21 {B : Heap} {args : List V} {objs : List Ob} {r : V} {objs' news : List Ob} (h : acwp (COk Tryd.prog B) c21 (initSt args objs) (EndA (tabT tab) [.tmp 6, .tmp 7] objs.length (mvOf args objs) [] r objs' news)) (hn : args.length ≤ Tryd.f21.ntmps := by exact Nat.le_of_ble_eq_true rfl) (hlen : objs'.length = objs.length := by rfl) : Ok B 21 args objs r objs' news :=
 callMB tabOk mixed Tryd.func21 Tryd.call21 (hints [.par 2, .par 3, .par 4, .par 6] [([0, 1, 2], qC0), ([], []), ([0, 1, 2, 13], qC0), ([], []), ([6, 7], qC0), ([], []), ([6, 7], qC0), ([], [])]) ⟨[6, 7], [], [], []⟩ (by kernel_rfl) rfl rfl (by decide) hn hlen h
def c25 : AC :=
 (.seq (.reg (.mk [0, 1, 2] [.par 0, .par 1, .par 2, .par 3, .par 4, .par 5, .par 6] [.par 2, .par 3, .par 4, .par 6]) [⟨none, some 6, .mvS none (.v (.int .i64 0))⟩,
 ⟨none, some 7, .mvS none (.v (.int .i64 0))⟩])
  (.seq (.seq (.reg (.mk [0, 1, 2, 14] [.par 0, .par 1, .par 2, .par 3, .par 4, .par 5, .par 6] [.par 2, .par 3, .par 4, .par 6]) [⟨none, some 9, .mv none (.t 0)⟩,
 ⟨none, some 10, .mv none (.t 1)⟩,
 ⟨none, some 11, .mv none (.t 2)⟩,
 ⟨none, some 12, .buildSl 1 [.t 10, .t 11]⟩,
 ⟨none, some 13, .call [none, (some 1)] none 0 30 [.t 9, .t 12]⟩,
 ⟨none, some 14, .un .not (.t 13)⟩])
  (.cond (.t 14) (.seq (.reg (.mk [6, 7] [.par 0, .par 1, .par 2, .par 3, .par 4, .par 5, .par 6] [.par 2, .par 3, .par 4, .par 6]) [⟨none, some 6, .mvS none (.v (.int .i64 0))⟩,
 ⟨none, some 7, .mvS none (.v (.int .i64 50))⟩])
  .ret) .skip))
  (.seq (.seq (.reg (.mk [0, 1, 2, 20] [.par 0, .par 1, .par 2, .par 3, .par 4, .par 5, .par 6] [.par 2, .par 3, .par 4, .par 6]) [⟨none, some 15, .mv none (.t 0)⟩,
 ⟨none, some 16, .nilc (.t 15)⟩,
 ⟨none, some 17, .fa 2 (.t 16)⟩,
 ⟨none, some 18, .load none false (.t 17)⟩,
 ⟨none, some 19, .lenSl (.t 18)⟩,
 ⟨none, some 20, .bin [] .geq (.t 19) (.v (.int .i64 16384))⟩])
  (.cond (.t 20) (.seq (.reg (.mk [6, 7] [.par 0, .par 1, .par 2, .par 3, .par 4, .par 5, .par 6] [.par 2, .par 3, .par 4, .par 6]) [⟨none, some 6, .mvS none (.v (.int .i64 0))⟩,
 ⟨none, some 7, .mvS none (.v (.int .i64 2))⟩])
  .ret) .skip))
  (.seq (.reg (.mk [0, 1, 2, 8] [.par 0, .par 1, .par 2, .par 3, .par 4, .par 5, .par 6] [.par 2, .par 3, .par 4, .par 6]) [⟨none, some 21, .mv none (.t 0)⟩,
 ⟨none, some 22, .nilc (.t 21)⟩,
 ⟨none, some 23, .fa 2 (.t 22)⟩,
 ⟨none, some 24, .load none false (.t 23)⟩,
 ⟨none, some 25, .lenSl (.t 24)⟩,
 ⟨none, some 8, .mvS none (.t 25)⟩])
  (.seq (.reg (.mk [0, 1, 2, 8] [.par 0, .par 1, .par 2, .par 3, .par 4, .par 5, .par 6] [.par 2, .par 3, .par 4, .par 6]) [⟨none, some 26, .mv none (.t 0)⟩,
 ⟨none, some 27, .mv none (.t 0)⟩,
 ⟨none, some 28, .nilc (.t 27)⟩,
 ⟨none, some 29, .fa 2 (.t 28)⟩,
 ⟨none, some 30, .load none true (.t 29)⟩,
 ⟨none, some 31, .mv none (.t 1)⟩,
 ⟨none, some 32, .mv none (.t 2)⟩,
 ⟨none, some 33, .build [(0, 1), (1, 1)] [.int .i64 0, .int .i64 0] [0, 1] [.t 31, .t 32]⟩,
 ⟨none, some 34, .buildSl 2 [.t 33]⟩,
 ⟨none, some 35, .app 2 16 (.t 30) (.t 34)⟩,
 ⟨none, some 36, .nilc (.t 26)⟩,
 ⟨none, some 37, .fa 2 (.t 36)⟩,
 ⟨none, none, .store 1 (some 2) (.t 37) (.t 35)⟩])
  (.seq (.reg (.mk [8] [.par 0, .par 1, .par 2, .par 3, .par 4, .par 5, .par 6] [.par 2, .par 3, .par 4, .par 6]) [⟨none, some 38, .mv none (.t 0)⟩,
 ⟨none, some 39, .mv none (.t 1)⟩,
 ⟨none, some 40, .mv none (.t 2)⟩,
 ⟨none, some 41, .mv none (.t 8)⟩,
 ⟨none, some 42, .build [(0, 1), (1, 1), (2, 1)] [.int .i64 0, .int .i64 0, .int .i64 0] [0, 1, 2] [.t 39, .t 40, .t 41]⟩,
 ⟨none, some 43, .buildSl 3 [.t 42]⟩,
 ⟨none, some 44, .call [none, (some 3)] (some (1, 43)) 0 39 [.t 38, .t 43]⟩])
  (.seq (.reg (.mk [6, 7] [.par 0, .par 1, .par 2, .par 3, .par 4, .par 5, .par 6] [.par 2, .par 3, .par 4, .par 6]) [⟨none, some 45, .mvS none (.t 8)⟩,
 ⟨none, some 6, .mvS none (.t 45)⟩,
 ⟨none, some 7, .mvS none (.v (.int .i64 0))⟩])
  .ret)))))))
theorem k25 {B : Heap} {args : List V} {objs : List Ob} {r : V} {objs' news : List Ob} (h : acwp (COk Tryd.prog B) c25 (initSt args objs) (EndA (tabT tab) [.tmp 6, .tmp 7] objs.length (mvOf args objs) [] r objs' news)) (hn : args.length ≤ Tryd.f25.ntmps := by exact Nat.le_of_ble_eq_true rfl) (hlen : objs'.length = objs.length := by rfl) : Ok B 25 args objs r objs' news :=
 callMB tabOk mixed Tryd.func25 Tryd.call25 (hints [.par 2, .par 3, .par 4, .par 6] [([0, 1, 2], qC0), ([], []), ([0, 1, 2, 14], qC0), ([], []), ([6, 7], qC0), ([], []), ([0, 1, 2, 20], qC0), ([], []), ([6, 7], qC0), ([], []), ([0, 1, 2, 8], qC0), ([], []), ([0, 1, 2, 8], qC0), ([], []), ([8], qC0), ([], []), ([6, 7], qC0), ([], [])]) ⟨[6, 7], [], [(39, 1)], []⟩ (by kernel_rfl) rfl rfl (by decide) hn hlen h
def c26 : AC :=
 (.seq (.reg (.mk [0, 1] [.par 0, .par 1, .par 2, .par 3, .par 4, .par 5, .par 6] [.par 2, .par 3, .par 4, .par 6]) [⟨none, some 4, .mvS none (.v (.int .i64 0))⟩])
 (.seq (.seq (.reg (.mk [0, 1, 21] [.par 0, .par 1, .par 2, .par 3, .par 4, .par 5, .par 6] [.par 2, .par 3, .par 4, .par 6]) [⟨none, some 11, .mv none (.t 1)⟩,
 ⟨none, some 12, .bin [] .lss (.t 11) (.v (.int .i64 0))⟩,
 ⟨none, some 13, .mv none (.t 12)⟩,
 ⟨some (13, false), some 14, .mv none (.t 1)⟩,
 ⟨some (13, false), some 15, .mv none (.t 0)⟩,
 ⟨some (13, false), some 16, .nilc (.t 15)⟩,
 ⟨some (13, false), some 17, .fa 2 (.t 16)⟩,
 ⟨some (13, false), some 18, .load none false (.t 17)⟩,
 ⟨some (13, false), some 19, .lenSl (.t 18)⟩,
 ⟨some (13, false), some 20, .bin [] .gtr (.t 14) (.t 19)⟩,
 ⟨none, some 21, .pick (.t 13) (.v (.bool true)) (.t 20)⟩])
  (.cond (.t 21) (.seq (.reg (.mk [4] [.par 0, .par 1, .par 2, .par 3, .par 4, .par 5, .par 6] [.par 2, .par 3, .par 4, .par 6]) [⟨none, some 4, .mvS none (.v (.int .i64 1))⟩])
  .ret) .skip))
  (.seq (.regD (.mk [0, 5, 6] [.par 0, .par 1, .par 2, .par 3, .par 4, .par 5, .par 6] [.par 2, .par 3, .par 4, .par 6]) [(0, 4), (1, 4), (2, 4), (3, 4), (0, 5), (1, 5), (2, 5), (3, 5), (0, 6), (1, 6), (2, 6), (3, 6), (0, 7), (1, 7), (2, 7), (0, 8), (1, 8), (2, 8), (3, 8), (4, 8), (5, 8), (6, 8), (7, 8), (0, 9), (1, 9), (2, 9), (3, 9), (4, 10), (5, 10), (6, 10), (7, 10), (8, 10), (9, 10)] [⟨none, some 22, .mv none (.t 0)⟩,
 ⟨none, some 23, .nilc (.t 22)⟩,
 ⟨none, some 24, .fa 0 (.t 23)⟩,
 ⟨none, some 25, .load none false (.t 24)⟩,
 ⟨none, some 26, .mv none (.t 0)⟩,
 ⟨none, some 27, .nilc (.t 26)⟩,
 ⟨none, some 28, .fa 2 (.t 27)⟩,
 ⟨none, some 29, .load none false (.t 28)⟩,
 ⟨none, some 30, .mv none (.t 1)⟩,
 ⟨none, some 31, .slc false (some 2) false (.t 29) none (some (.t 30))⟩,
 ⟨none, some 5, .mvS (some 2) (.t 25)⟩,
 ⟨none, some 6, .mvS (some 2) (.t 31)⟩])
  (.seq (.reg (.mk [0, 5, 6] [.par 0, .par 1, .par 2, .par 3, .par 4, .par 5, .par 6] [.par 2, .par 3, .par 4, .par 6]) [⟨none, some 32, .mv none (.t 0)⟩,
 ⟨none, some 33, .mv none (.t 0)⟩,
 ⟨none, some 34, .nilc (.t 32)⟩,
 ⟨none, some 35, .fa 0 (.t 34)⟩,
 ⟨none, none, .store 1 (some 2) (.t 35) (.v .nils)⟩,
 ⟨none, some 36, .nilc (.t 33)⟩,
 ⟨none, some 37, .fa 2 (.t 36)⟩,
 ⟨none, none, .store 1 (some 2) (.t 37) (.v .nils)⟩])
  (.seq (.reg (.mk [0, 5, 6] [.par 0, .par 1, .par 2, .par 3, .par 4, .par 5, .par 6] [.par 2, .par 3, .par 4, .par 6]) [⟨none, some 38, .mv none (.t 0)⟩,
 ⟨none, some 39, .mv none (.t 0)⟩,
 ⟨none, some 40, .mv none (.t 0)⟩,
 ⟨none, some 41, .mv none (.t 0)⟩,
 ⟨none, some 42, .nilc (.t 38)⟩,
 ⟨none, some 43, .fa 3 (.t 42)⟩,
 ⟨none, none, .store 1 (some 1) (.t 43) (.v .nils)⟩,
 ⟨none, some 44, .nilc (.t 39)⟩,
 ⟨none, some 45, .fa 4 (.t 44)⟩,
 ⟨none, none, .store 1 (some 1) (.t 45) (.v .nils)⟩,
 ⟨none, some 46, .nilc (.t 40)⟩,
 ⟨none, some 47, .fa 5 (.t 46)⟩,
 ⟨none, none, .store 1 (some 1) (.t 47) (.v .nils)⟩,
 ⟨none, some 48, .nilc (.t 41)⟩,
 ⟨none, some 49, .fa 7 (.t 48)⟩,
 ⟨none, none, .store 1 (some 3) (.t 49) (.v .nils)⟩])
  (.seq (.reg (.mk [0, 5, 6] [.par 0, .par 1, .par 2, .par 3, .par 4, .par 5, .par 6] [.par 2, .par 3, .par 4, .par 6]) [⟨none, some 50, .mv none (.t 0)⟩,
 ⟨none, some 51, .nilc (.t 50)⟩,
 ⟨none, some 52, .fa 6 (.t 51)⟩,
 ⟨none, some 53, .load none false (.t 52)⟩,
 ⟨none, none, .clr (.t 53)⟩])
  (.seq (.seq (.reg (.mk [0, 6, 54, 55, 56] [.par 0, .par 1, .par 2, .par 3, .par 4, .par 5, .par 6] [.par 2, .par 3, .par 4, .par 6]) [⟨none, some 54, .mv (some 2) (.t 5)⟩,
 ⟨none, some 55, .lenSl (.t 54)⟩,
 ⟨none, some 56, .mv none (.v (.int .i64 0))⟩])
  (.block 0 (.loop (.mk [0, 6, 54, 55, 56] [.par 0, .par 1, .par 2, .par 3, .par 4, .par 5, .par 6] [.par 2, .par 3, .par 4, .par 6]) (.seq (.reg (.mk [0, 6, 54, 55, 56, 57] [.par 0, .par 1, .par 2, .par 3, .par 4, .par 5, .par 6] [.par 2, .par 3, .par 4, .par 6]) [⟨none, some 57, .bin [] .lss (.t 56) (.t 55)⟩])
  (.seq (.cond (.t 57) .skip (.exit 0))
  (.seq (.block 1 (.seq (.reg (.mk [0, 6, 7, 8, 54, 55, 56] [.par 0, .par 1, .par 2, .par 3, .par 4, .par 5, .par 6, .loc 8] [.par 2, .par 3, .par 4, .par 6]) [⟨none, some 58, .mv none (.t 56)⟩,
 ⟨none, some 59, .ia (some 2) none (.t 54) (.t 56)⟩,
 ⟨none, some 60, .load (some 2) false (.t 59)⟩,
 ⟨none, some 8, .alloc [(.str []), (.own 1 [])]⟩,
 ⟨none, some 7, .mvS none (.t 58)⟩,
 ⟨none, none, .store 2 none (.t 8) (.t 60)⟩])
  (.seq (.regD (.mk [0, 6, 7, 54, 55, 56] [.par 0, .par 1, .par 2, .par 3, .par 4, .par 5, .par 6] [.par 2, .par 3, .par 4, .par 6]) [(0, 1), (0, 2), (0, 3), (0, 4), (0, 5), (1, 5), (2, 5), (3, 5), (0, 6), (1, 6), (2, 6), (3, 6), (4, 6), (0, 7)] [⟨none, some 61, .mv none (.t 0)⟩,
 ⟨none, some 62, .mv none (.t 0)⟩,
 ⟨none, some 63, .nilc (.t 62)⟩,
 ⟨none, some 64, .fa 0 (.t 63)⟩,
 ⟨none, some 65, .load none true (.t 64)⟩,
 ⟨none, some 66, .load (some 2) false (.t 8)⟩,
 ⟨none, some 67, .buildSl 2 [.t 66]⟩,
 ⟨none, some 68, .app 2 40 (.t 65) (.t 67)⟩,
 ⟨none, some 69, .nilc (.t 61)⟩,
 ⟨none, some 70, .fa 0 (.t 69)⟩,
 ⟨none, none, .store 1 (some 2) (.t 70) (.t 68)⟩])
  (.reg (.mk [0, 6, 54, 55, 56] [.par 0, .par 1, .par 2, .par 3, .par 4, .par 5, .par 6] [.par 2, .par 3, .par 4, .par 6]) [⟨none, some 71, .mv none (.t 0)⟩,
 ⟨none, some 72, .mv none (.t 7)⟩,
 ⟨none, some 73, .call [none, none] none 0 37 [.t 71, .t 72]⟩]))))
  (.reg (.mk [0, 6, 54, 55, 56] [.par 0, .par 1, .par 2, .par 3, .par 4, .par 5, .par 6] [.par 2, .par 3, .par 4, .par 6]) [⟨none, some 74, .bin [] .add (.t 56) (.v (.int .i64 1))⟩,
 ⟨none, some 56, .mv none (.t 74)⟩])))))))
  (.seq (.seq (.reg (.mk [0, 75, 76, 77] [.par 0, .par 1, .par 2, .par 3, .par 4, .par 5, .par 6] [.par 2, .par 3, .par 4, .par 6]) [⟨none, some 75, .mv (some 2) (.t 6)⟩,
 ⟨none, some 76, .lenSl (.t 75)⟩,
 ⟨none, some 77, .mv none (.v (.int .i64 0))⟩])
  (.block 2 (.loop (.mk [0, 75, 76, 77] [.par 0, .par 1, .par 2, .par 3, .par 4, .par 5, .par 6] [.par 2, .par 3, .par 4, .par 6]) (.seq (.reg (.mk [0, 75, 76, 77, 78] [.par 0, .par 1, .par 2, .par 3, .par 4, .par 5, .par 6] [.par 2, .par 3, .par 4, .par 6]) [⟨none, some 78, .bin [] .lss (.t 77) (.t 76)⟩])
  (.seq (.cond (.t 78) .skip (.exit 2))
  (.seq (.block 3 (.seq (.reg (.mk [0, 10, 75, 76, 77] [.par 0, .par 1, .par 2, .par 3, .par 4, .par 5, .par 6, .loc 10] [.par 2, .par 3, .par 4, .par 6]) [⟨none, some 79, .ia (some 2) none (.t 75) (.t 77)⟩,
 ⟨none, some 80, .load (some 2) false (.t 79)⟩,
 ⟨none, some 10, .alloc [.int .i64 0, .int .i64 0]⟩,
 ⟨none, none, .store 2 none (.t 10) (.t 80)⟩])
  (.reg (.mk [0, 75, 76, 77] [.par 0, .par 1, .par 2, .par 3, .par 4, .par 5, .par 6] [.par 2, .par 3, .par 4, .par 6]) [⟨none, some 81, .mv none (.t 0)⟩,
 ⟨none, some 82, .ia none (some (2, 1)) (.t 10) (.v (.int .i64 0))⟩,
 ⟨none, some 83, .load none false (.t 82)⟩,
 ⟨none, some 84, .ia none (some (2, 1)) (.t 10) (.v (.int .i64 1))⟩,
 ⟨none, some 85, .load none false (.t 84)⟩,
 ⟨none, some 86, .call [none, none, none] none 0 25 [.t 81, .t 83, .t 85]⟩])))
  (.reg (.mk [0, 75, 76, 77] [.par 0, .par 1, .par 2, .par 3, .par 4, .par 5, .par 6] [.par 2, .par 3, .par 4, .par 6]) [⟨none, some 87, .bin [] .add (.t 77) (.v (.int .i64 1))⟩,
 ⟨none, some 77, .mv none (.t 87)⟩])))))))
  (.seq (.reg (.mk [4] [.par 0, .par 1, .par 2, .par 3, .par 4, .par 5, .par 6] [.par 2, .par 3, .par 4, .par 6]) [⟨none, some 4, .mvS none (.v (.int .i64 0))⟩])
  .ret)))))))))
theorem k26 {B : Heap} {args : List V} {objs : List Ob} {r : V} {objs' news : List Ob} (h : acwp (COk Tryd.prog B) c26 (initSt args objs) (EndA (tabT tab) [.tmp 4] objs.length (mvOf args objs) [] r objs' news)) (hn : args.length ≤ Tryd.f26.ntmps := by exact Nat.le_of_ble_eq_true rfl) (hlen : objs'.length = objs.length := by rfl) : Ok B 26 args objs r objs' news :=
 callMB tabOk mixed Tryd.func26 Tryd.call26 (hints [.par 2, .par 3, .par 4, .par 6] [([0, 1], qC0), ([], []), ([0, 1, 21], qC0), ([], []), ([4], qC0), ([], []), ([0, 5, 6], qC0), ([], []), ([0, 5, 6], qC0), ([], []), ([0, 5, 6], qC0), ([], []), ([0, 5, 6], qC0), ([], []), ([0, 6, 54, 55, 56], qC0), ([], []), ([0, 6, 54, 55, 56, 57], qC0), ([0, 6, 54, 55, 56], qC0), ([0, 6, 7, 8, 54, 55, 56], [.par 0, .par 1, .par 2, .par 3, .par 4, .par 5, .par 6, .loc 8]), ([], []), ([0, 6, 7, 54, 55, 56], qC0), ([], []), ([0, 6, 54, 55, 56], qC0), ([], []), ([0, 6, 54, 55, 56], qC0), ([], []), ([0, 75, 76, 77], qC0), ([], []), ([0, 75, 76, 77, 78], qC0), ([0, 75, 76, 77], qC0), ([0, 10, 75, 76, 77], [.par 0, .par 1, .par 2, .par 3, .par 4, .par 5, .par 6, .loc 10]), ([], []), ([0, 75, 76, 77], qC0), ([], []), ([0, 75, 76, 77], qC0), ([], []), ([4], qC0), ([], [])]) ⟨[4], [], [], []⟩ (by kernel_rfl) rfl rfl (by decide) hn hlen h
def c27 : AC :=
 (.seq (.reg (.mk [0] [.par 0, .par 1, .par 2, .par 3, .par 4, .par 5, .par 6] [.par 2, .par 3, .par 4, .par 6]) [⟨none, some 2, .mvS none (.v (.int .i64 0))⟩])
 (.seq (.reg (.mk [2] [.par 0, .par 1, .par 2, .par 3, .par 4, .par 5, .par 6] [.par 2, .par 3, .par 4, .par 6]) [⟨none, some 3, .mv none (.t 0)⟩,
 ⟨none, some 4, .nilc (.t 3)⟩,
 ⟨none, some 5, .fa 2 (.t 4)⟩,
 ⟨none, some 6, .load none false (.t 5)⟩,
 ⟨none, some 7, .lenSl (.t 6)⟩,
 ⟨none, some 2, .mvS none (.t 7)⟩])
  .ret))
theorem k27 {B : Heap} {args : List V} {objs : List Ob} {r : V} {objs' news : List Ob} (h : acwp (COk Tryd.prog B) c27 (initSt args objs) (EndA (tabT tab) [.tmp 2] objs.length (mvOf args objs) [] r objs' news)) (hn : args.length ≤ Tryd.f27.ntmps := by exact Nat.le_of_ble_eq_true rfl) (hlen : objs'.length = objs.length := by rfl) : Ok B 27 args objs r objs' news :=
 callMB tabOk mixed Tryd.func27 Tryd.call27 (hints [.par 2, .par 3, .par 4, .par 6] [([0], qC0), ([], []), ([2], qC0), ([], [])]) ⟨[2], [], [], []⟩ (by kernel_rfl) rfl rfl (by decide) hn hlen h
def c30 : AC :=
 (.seq (.reg (.mk [0, 1] [.par 0, .par 1, .par 2, .par 3, .par 4, .par 5, .par 6] [.par 2, .par 3, .par 4, .par 6]) [⟨none, some 4, .mvS none (.v (.bool false))⟩])
 (.seq (.seq (.reg (.mk [0, 7, 8, 9] [.par 0, .par 1, .par 2, .par 3, .par 4, .par 5, .par 6] [.par 2, .par 3, .par 4, .par 6]) [⟨none, some 7, .mv (some 1) (.t 1)⟩,
 ⟨none, some 8, .lenSl (.t 7)⟩,
 ⟨none, some 9, .mv none (.v (.int .i64 0))⟩])
  (.block 0 (.loop (.mk [0, 7, 8, 9] [.par 0, .par 1, .par 2, .par 3, .par 4, .par 5, .par 6] [.par 2, .par 3, .par 4, .par 6]) (.seq (.reg (.mk [0, 7, 8, 9, 10] [.par 0, .par 1, .par 2, .par 3, .par 4, .par 5, .par 6] [.par 2, .par 3, .par 4, .par 6]) [⟨none, some 10, .bin [] .lss (.t 9) (.t 8)⟩])
  (.seq (.cond (.t 10) .skip (.exit 0))
  (.seq (.block 1 (.seq (.reg (.mk [0, 6, 7, 8, 9] [.par 0, .par 1, .par 2, .par 3, .par 4, .par 5, .par 6] [.par 2, .par 3, .par 4, .par 6]) [⟨none, some 11, .ia (some 1) none (.t 7) (.t 9)⟩,
 ⟨none, some 12, .load none false (.t 11)⟩,
 ⟨none, some 6, .mvS none (.t 12)⟩])
  (.seq (.reg (.mk [0, 7, 8, 9, 23] [.par 0, .par 1, .par 2, .par 3, .par 4, .par 5, .par 6] [.par 2, .par 3, .par 4, .par 6]) [⟨none, some 13, .mv none (.t 6)⟩,
 ⟨none, some 14, .bin [] .lss (.t 13) (.v (.int .i64 0))⟩,
 ⟨none, some 15, .mv none (.t 14)⟩,
 ⟨some (15, false), some 16, .mv none (.t 6)⟩,
 ⟨some (15, false), some 17, .mv none (.t 0)⟩,
 ⟨some (15, false), some 18, .nilc (.t 17)⟩,
 ⟨some (15, false), some 19, .fa 0 (.t 18)⟩,
 ⟨some (15, false), some 20, .load none false (.t 19)⟩,
 ⟨some (15, false), some 21, .lenSl (.t 20)⟩,
 ⟨some (15, false), some 22, .bin [] .geq (.t 16) (.t 21)⟩,
 ⟨none, some 23, .pick (.t 15) (.v (.bool true)) (.t 22)⟩])
  (.cond (.t 23) (.seq (.reg (.mk [4] [.par 0, .par 1, .par 2, .par 3, .par 4, .par 5, .par 6] [.par 2, .par 3, .par 4, .par 6]) [⟨none, some 4, .mvS none (.v (.bool false))⟩])
  .ret) .skip))))
  (.reg (.mk [0, 7, 8, 9] [.par 0, .par 1, .par 2, .par 3, .par 4, .par 5, .par 6] [.par 2, .par 3, .par 4, .par 6]) [⟨none, some 24, .bin [] .add (.t 9) (.v (.int .i64 1))⟩,
 ⟨none, some 9, .mv none (.t 24)⟩])))))))
  (.seq (.reg (.mk [4] [.par 0, .par 1, .par 2, .par 3, .par 4, .par 5, .par 6] [.par 2, .par 3, .par 4, .par 6]) [⟨none, some 4, .mvS none (.v (.bool true))⟩])
  .ret)))
theorem k30 {B : Heap} {args : List V} {objs : List Ob} {r : V} {objs' news : List Ob} (h : acwp (COk Tryd.prog B) c30 (initSt args objs) (EndA (tabT tab) [.tmp 4] objs.length (mvOf args objs) [] r objs' news)) (hn : args.length ≤ Tryd.f30.ntmps := by exact Nat.le_of_ble_eq_true rfl) (hlen : objs'.length = objs.length := by rfl) : Ok B 30 args objs r objs' news :=
 callMB tabOk mixed Tryd.func30 Tryd.call30 (hints [.par 2, .par 3, .par 4, .par 6] [([0, 1], qC0), ([], []), ([0, 7, 8, 9], qC0), ([], []), ([0, 7, 8, 9, 10], qC0), ([0, 7, 8, 9], qC0), ([0, 6, 7, 8, 9], qC0), ([], []), ([0, 7, 8, 9, 23], qC0), ([], []), ([4], qC0), ([], []), ([0, 7, 8, 9], qC0), ([], []), ([4], qC0), ([], [])]) ⟨[4], [], [], []⟩ (by kernel_rfl) rfl rfl (by decide) hn hlen h
def c31 : AC :=
 (.seq (.reg (.mk [0, 1] [.par 0, .par 1, .par 2, .par 3, .par 4, .par 5, .par 6] [.par 2, .par 3, .par 4, .par 6]) [⟨none, some 4, .mvS none (.v (.int .i64 0))⟩])
 (.seq (.block 0 (.loop (.mk [0, 1] [.par 0, .par 1, .par 2, .par 3, .par 4, .par 5, .par 6] [.par 2, .par 3, .par 4, .par 6]) (.seq (.seq (.reg (.mk [0, 1, 13] [.par 0, .par 1, .par 2, .par 3, .par 4, .par 5, .par 6] [.par 2, .par 3, .par 4, .par 6]) [⟨none, some 5, .mv none (.t 0)⟩,
 ⟨none, some 6, .nilc (.t 5)⟩,
 ⟨none, some 7, .fa 3 (.t 6)⟩,
 ⟨none, some 8, .load none false (.t 7)⟩,
 ⟨none, some 9, .mv none (.t 1)⟩,
 ⟨none, some 10, .ia (some 1) none (.t 8) (.t 9)⟩,
 ⟨none, some 11, .load none false (.t 10)⟩,
 ⟨none, some 12, .mv none (.t 1)⟩,
 ⟨none, some 13, .bin [] .neq (.t 11) (.t 12)⟩])
  (.cond (.t 13) .skip (.exit 0)))
  (.block 1 (.reg (.mk [0, 1] [.par 0, .par 1, .par 2, .par 3, .par 4, .par 5, .par 6] [.par 2, .par 3, .par 4, .par 6]) [⟨none, some 14, .mv none (.t 0)⟩,
 ⟨none, some 15, .nilc (.t 14)⟩,
 ⟨none, some 16, .fa 3 (.t 15)⟩,
 ⟨none, some 17, .load none false (.t 16)⟩,
 ⟨none, some 18, .mv none (.t 1)⟩,
 ⟨none, some 19, .ia (some 1) none (.t 17) (.t 18)⟩,
 ⟨none, some 20, .load none false (.t 19)⟩,
 ⟨none, some 1, .mvS none (.t 20)⟩])))))
  (.seq (.reg (.mk [4] [.par 0, .par 1, .par 2, .par 3, .par 4, .par 5, .par 6] [.par 2, .par 3, .par 4, .par 6]) [⟨none, some 21, .mvS none (.t 1)⟩,
 ⟨none, some 4, .mvS none (.t 21)⟩])
  .ret)))
theorem k31 {B : Heap} {args : List V} {objs : List Ob} {r : V} {objs' news : List Ob} (h : acwp (COk Tryd.prog B) c31 (initSt args objs) (EndA (tabT tab) [.tmp 4] objs.length (mvOf args objs) [] r objs' news)) (hn : args.length ≤ Tryd.f31.ntmps := by exact Nat.le_of_ble_eq_true rfl) (hlen : objs'.length = objs.length := by rfl) : Ok B 31 args objs r objs' news :=
 callMB tabOk mixed Tryd.func31 Tryd.call31 (hints [.par 2, .par 3, .par 4, .par 6] [([0, 1], qC0), ([], []), ([0, 1, 13], qC0), ([0, 1], qC0), ([0, 1], qC0), ([], []), ([4], qC0), ([], [])]) ⟨[4], [], [], []⟩ (by kernel_rfl) rfl rfl (by decide) hn hlen h
def c32 : AC :=
 (.block 0 (.loop (.mk [0, 1] [.par 0, .par 1, .par 2, .par 3, .par 4, .par 5, .par 6, .par 7, .par 8, .par 9, .par 10] [.par 1, .par 4, .par 6, .par 7, .par 8, .par 10]) (.seq (.seq (.reg (.mk [0, 1, 8] [.par 0, .par 1, .par 2, .par 3, .par 4, .par 5, .par 6, .par 7, .par 8, .par 9, .par 10] [.par 1, .par 4, .par 6, .par 7, .par 8, .par 10]) [⟨none, some 6, .mv (some 2) (.t 1)⟩,
 ⟨none, some 7, .lenSl (.t 6)⟩,
 ⟨none, some 8, .bin [] .gtr (.t 7) (.v (.int .i64 0))⟩])
  (.cond (.t 8) .skip (.exit 0)))
  (.block 1 (.seq (.reg (.mk [0, 1, 4] [.par 0, .par 1, .par 2, .par 3, .par 4, .par 5, .par 6, .par 7, .par 8, .par 9, .par 10, .loc 4] [.par 1, .par 4, .par 6, .par 7, .par 8, .par 10]) [⟨none, some 9, .mv (some 2) (.t 1)⟩,
 ⟨none, some 10, .mv (some 2) (.t 1)⟩,
 ⟨none, some 11, .lenSl (.t 10)⟩,
 ⟨none, some 12, .bin [] .sub (.t 11) (.v (.int .i64 1))⟩,
 ⟨none, some 13, .ia (some 2) none (.t 9) (.t 12)⟩,
 ⟨none, some 14, .load (some 2) false (.t 13)⟩,
 ⟨none, some 4, .alloc [.int .i64 0, .int .i64 0]⟩,
 ⟨none, none, .store 2 none (.t 4) (.t 14)⟩])
  (.seq (.reg (.mk [0, 1, 4] [.par 0, .par 1, .par 2, .par 3, .par 4, .par 5, .par 6, .par 7, .par 8, .par 9, .par 10, .loc 4] [.par 1, .par 4, .par 6, .par 7, .par 8, .par 10]) [⟨none, some 15, .mv (some 2) (.t 1)⟩,
 ⟨none, some 16, .mv (some 2) (.t 1)⟩,
 ⟨none, some 17, .lenSl (.t 16)⟩,
 ⟨none, some 18, .bin [] .sub (.t 17) (.v (.int .i64 1))⟩,
 ⟨none, some 19, .slc false (some 2) false (.t 15) none (some (.t 18))⟩,
 ⟨none, some 1, .mvS (some 2) (.t 19)⟩])
  (.seq (.seq (.regD (.mk [0, 1, 4, 33] [.par 0, .par 1, .par 2, .par 3, .par 4, .par 5, .par 6, .par 7, .par 8, .par 9, .par 10, .loc 4] [.par 1, .par 4, .par 6, .par 7, .par 8, .par 10]) [(0, 2), (1, 2), (0, 3), (6, 10), (7, 10), (8, 10), (9, 10)] [⟨none, some 20, .ia none (some (2, 1)) (.t 4) (.v (.int .i64 0))⟩,
 ⟨none, some 21, .load none false (.t 20)⟩,
 ⟨none, some 22, .ia none (some (2, 1)) (.t 4) (.v (.int .i64 1))⟩,
 ⟨none, some 23, .load none false (.t 22)⟩,
 ⟨none, some 24, .bin [] .eql (.t 21) (.t 23)⟩,
 ⟨none, some 25, .mv none (.t 24)⟩,
 ⟨some (25, false), some 26, .mv none (.t 0)⟩,
 ⟨some (25, false), some 27, .nilc (.t 26)⟩,
 ⟨some (25, false), some 28, .fa 1 (.t 27)⟩,
 ⟨some (25, false), some 29, .load none false (.t 28)⟩,
 ⟨some (25, false), some 30, .load (some 2) false (.t 4)⟩,
 ⟨some (25, false), some 31, .mlook 100 (.int .i64 0) false (.t 29) (.t 30)⟩,
 ⟨some (25, false), some 32, .bin [] .gtr (.t 31) (.v (.int .i64 0))⟩,
 ⟨none, some 33, .pick (.t 25) (.v (.bool true)) (.t 32)⟩])
  (.cond (.t 33) (.exit 1) .skip))
  (.seq (.regD (.mk [0, 1, 4] [.par 0, .par 1, .par 2, .par 3, .par 4, .par 5, .par 6, .par 7, .par 8, .par 9, .par 10, .loc 4] [.par 1, .par 4, .par 6, .par 7, .par 8, .par 10]) [(0, 4), (1, 4), (2, 4), (6, 7), (5, 8), (6, 8)] [⟨none, some 34, .mv none (.t 0)⟩,
 ⟨none, some 35, .nilc (.t 34)⟩,
 ⟨none, some 36, .fa 1 (.t 35)⟩,
 ⟨none, some 37, .load none false (.t 36)⟩,
 ⟨none, some 38, .load (some 2) false (.t 4)⟩,
 ⟨none, some 39, .mlook 100 (.int .i64 0) false (.t 37) (.t 38)⟩,
 ⟨none, some 40, .bin [] .add (.t 39) (.v (.int .i64 1))⟩,
 ⟨none, some 41, .ment 100 (.int .i64 0) (.t 37) (.t 38)⟩,
 ⟨none, some 42, .ext (.t 41) 1⟩,
 ⟨none, none, .mst (.t 37) (.t 42) (.t 40)⟩])
  (.seq (.reg (.mk [0, 1, 4, 5] [.par 0, .par 1, .par 2, .par 3, .par 4, .par 5, .par 6, .par 7, .par 8, .par 9, .par 10, .loc 4] [.par 1, .par 4, .par 6, .par 7, .par 8, .par 10]) [⟨none, some 43, .mv none (.t 0)⟩,
 ⟨none, some 44, .ia none (some (2, 1)) (.t 4) (.v (.int .i64 0))⟩,
 ⟨none, some 45, .load none false (.t 44)⟩,
 ⟨none, some 46, .ia none (some (2, 1)) (.t 4) (.v (.int .i64 1))⟩,
 ⟨none, some 47, .load none false (.t 46)⟩,
 ⟨none, some 48, .call [none, none, none] none 0 44 [.t 43, .t 45, .t 47]⟩,
 ⟨none, some 5, .mvS none (.t 48)⟩])
  (.seq (.reg (.mk [0, 1, 4, 5] [.par 0, .par 1, .par 2, .par 3, .par 4, .par 5, .par 6, .par 7, .par 8, .par 9, .par 10, .loc 4] [.par 1, .par 4, .par 6, .par 7, .par 8, .par 10]) [⟨none, some 49, .mvS (some 2) (.t 1)⟩,
 ⟨none, some 50, .mv none (.t 0)⟩,
 ⟨none, some 51, .ia none (some (2, 1)) (.t 4) (.v (.int .i64 0))⟩,
 ⟨none, some 52, .load none false (.t 51)⟩,
 ⟨none, some 53, .mv none (.t 5)⟩,
 ⟨none, some 54, .call [none, none, none] none 0 45 [.t 50, .t 52, .t 53]⟩,
 ⟨none, some 55, .app 2 16 (.t 49) (.t 54)⟩,
 ⟨none, some 1, .mvS (some 2) (.t 55)⟩])
  (.reg (.mk [0, 1] [.par 0, .par 1, .par 2, .par 3, .par 4, .par 5, .par 6, .par 7, .par 8, .par 9, .par 10] [.par 1, .par 4, .par 6, .par 7, .par 8, .par 10]) [⟨none, some 56, .mvS (some 2) (.t 1)⟩,
 ⟨none, some 57, .mv none (.t 0)⟩,
 ⟨none, some 58, .ia none (some (2, 1)) (.t 4) (.v (.int .i64 1))⟩,
 ⟨none, some 59, .load none false (.t 58)⟩,
 ⟨none, some 60, .mv none (.t 5)⟩,
 ⟨none, some 61, .call [none, none, none] none 0 45 [.t 57, .t 59, .t 60]⟩,
 ⟨none, some 62, .app 2 16 (.t 56) (.t 61)⟩,
 ⟨none, some 1, .mvS (some 2) (.t 62)⟩])))))))))))
theorem k32 {B : Heap} {args : List V} {objs : List Ob} {r : V} {objs' news : List Ob} (h : acwp (COk Tryd.prog B) c32 (initSt args objs) (EndA (tabT tab) [] objs.length (mvOf args objs) [] r objs' news)) (hn : args.length ≤ Tryd.f32.ntmps := by exact Nat.le_of_ble_eq_true rfl) (hlen : objs'.length = objs.length := by rfl) : Ok B 32 args objs r objs' news :=
 callMB tabOk mixed Tryd.func32 Tryd.call32 (hints [.par 1, .par 4, .par 6, .par 7, .par 8, .par 10] [([0, 1, 8], [.par 0, .par 1, .par 2, .par 3, .par 4, .par 5, .par 6, .par 7, .par 8, .par 9, .par 10]), ([0, 1], [.par 0, .par 1, .par 2, .par 3, .par 4, .par 5, .par 6, .par 7, .par 8, .par 9, .par 10]), ([0, 1, 4], [.par 0, .par 1, .par 2, .par 3, .par 4, .par 5, .par 6, .par 7, .par 8, .par 9, .par 10, .loc 4]), ([], []), ([0, 1, 4], [.par 0, .par 1, .par 2, .par 3, .par 4, .par 5, .par 6, .par 7, .par 8, .par 9, .par 10, .loc 4]), ([], []), ([0, 1, 4, 33], [.par 0, .par 1, .par 2, .par 3, .par 4, .par 5, .par 6, .par 7, .par 8, .par 9, .par 10, .loc 4]), ([], []), ([0, 1, 4], [.par 0, .par 1, .par 2, .par 3, .par 4, .par 5, .par 6, .par 7, .par 8, .par 9, .par 10, .loc 4]), ([], []), ([0, 1, 4, 5], [.par 0, .par 1, .par 2, .par 3, .par 4, .par 5, .par 6, .par 7, .par 8, .par 9, .par 10, .loc 4]), ([], []), ([0, 1, 4, 5], [.par 0, .par 1, .par 2, .par 3, .par 4, .par 5, .par 6, .par 7, .par 8, .par 9, .par 10, .loc 4]), ([], []), ([0, 1], [.par 0, .par 1, .par 2, .par 3, .par 4, .par 5, .par 6, .par 7, .par 8, .par 9, .par 10]), ([], [])]) ⟨[], [], [], []⟩ (by kernel_rfl) rfl rfl (by decide) hn hlen h
def c33 : AC :=
 (.seq (.regD (.mk [0, 6, 7] [.par 0] []) [(0, 1), (0, 4), (1, 4), (2, 4), (3, 4), (0, 5), (1, 5), (2, 5), (3, 5), (4, 5), (0, 6), (1, 6), (2, 6), (3, 6), (0, 7), (1, 7), (2, 7), (0, 9), (1, 9), (2, 9), (3, 9), (4, 9), (5, 9), (6, 9), (7, 9), (8, 9), (0, 10), (1, 10), (2, 10), (3, 10), (4, 10), (5, 10), (6, 10), (7, 10), (8, 10), (9, 10), (0, 11), (1, 11), (2, 11), (3, 11), (4, 11), (5, 11), (6, 11), (7, 11), (8, 11), (0, 12), (1, 12), (2, 12), (4, 12), (5, 12), (6, 12), (8, 12), (0, 13), (1, 13), (2, 13), (3, 13), (4, 13), (5, 13), (6, 13), (7, 13), (8, 13), (9, 13), (10, 13), (11, 13), (12, 13), (0, 14), (1, 14), (2, 14), (3, 14), (4, 14), (5, 14), (6, 14), (7, 14), (8, 14), (9, 14), (10, 14), (11, 14), (12, 14), (13, 14), (0, 15), (1, 15), (2, 15), (3, 15), (4, 15), (5, 15), (6, 15), (7, 15), (8, 15), (9, 15), (10, 15), (11, 15), (12, 15), (0, 16), (1, 16), (2, 16), (4, 16), (5, 16), (6, 16), (8, 16), (9, 16), (10, 16), (11, 16), (0, 17), (1, 17), (2, 17), (3, 17), (4, 17), (5, 17), (6, 17), (7, 17), (8, 17), (9, 18), (10, 18), (11, 18), (12, 18), (13, 18), (14, 18), (15, 18), (16, 18), (17, 18)] [⟨none, some 9, .mv (some 1) (.t 0)⟩,
 ⟨none, some 10, .mv none (.t 1)⟩,
 ⟨none, some 11, .ia (some 1) none (.t 9) (.t 10)⟩,
 ⟨none, some 12, .load none false (.t 11)⟩,
 ⟨none, some 13, .mv (some 1) (.t 0)⟩,
 ⟨none, some 14, .mv none (.t 2)⟩,
 ⟨none, some 15, .ia (some 1) none (.t 13) (.t 14)⟩,
 ⟨none, some 16, .load none false (.t 15)⟩,
 ⟨none, some 17, .mn (.t 12) (.t 16)⟩,
 ⟨none, some 18, .mv (some 1) (.t 0)⟩,
 ⟨none, some 19, .mv none (.t 1)⟩,
 ⟨none, some 20, .ia (some 1) none (.t 18) (.t 19)⟩,
 ⟨none, some 21, .load none false (.t 20)⟩,
 ⟨none, some 22, .mv (some 1) (.t 0)⟩,
 ⟨none, some 23, .mv none (.t 2)⟩,
 ⟨none, some 24, .ia (some 1) none (.t 22) (.t 23)⟩,
 ⟨none, some 25, .load none false (.t 24)⟩,
 ⟨none, some 26, .mx (.t 21) (.t 25)⟩,
 ⟨none, some 6, .mvS none (.t 17)⟩,
 ⟨none, some 7, .mvS none (.t 26)⟩])
  (.seq (.reg (.mk [0, 6, 7, 8] [.par 0] []) [⟨none, some 8, .mvS none (.v (.int .i64 0))⟩])
  (.block 0 (.loop (.mk [0, 6, 7, 8] [.par 0] []) (.seq (.seq (.reg (.mk [0, 6, 7, 8, 30] [.par 0] []) [⟨none, some 27, .mv none (.t 8)⟩,
 ⟨none, some 28, .mv (some 1) (.t 0)⟩,
 ⟨none, some 29, .lenSl (.t 28)⟩,
 ⟨none, some 30, .bin [] .lss (.t 27) (.t 29)⟩])
  (.cond (.t 30) .skip (.exit 0)))
  (.seq (.block 1 (.seq (.reg (.mk [0, 6, 7, 8, 38] [.par 0] []) [⟨none, some 33, .mv (some 1) (.t 0)⟩,
 ⟨none, some 34, .mv none (.t 8)⟩,
 ⟨none, some 35, .ia (some 1) none (.t 33) (.t 34)⟩,
 ⟨none, some 36, .load none false (.t 35)⟩,
 ⟨none, some 37, .mv none (.t 7)⟩,
 ⟨none, some 38, .bin [] .eql (.t 36) (.t 37)⟩])
  (.cond (.t 38) (.reg (.mk [0, 6, 7, 8] [.par 0] []) [⟨none, some 39, .mv (some 1) (.t 0)⟩,
 ⟨none, some 40, .mv none (.t 8)⟩,
 ⟨none, some 41, .mv none (.t 6)⟩,
 ⟨none, some 42, .ia (some 1) none (.t 39) (.t 40)⟩,
 ⟨none, none, .store 1 none (.t 42) (.t 41)⟩]) .skip)))
  (.reg (.mk [0, 6, 7, 8] [.par 0] []) [⟨none, some 31, .mv none (.t 8)⟩,
 ⟨none, some 32, .bin [] .add (.t 31) (.v (.int .i64 1))⟩,
 ⟨none, some 8, .mvS none (.t 32)⟩])))))))
theorem k33 {B : Heap} {args : List V} {objs : List Ob} {r : V} {objs' news : List Ob} (h : acwp (COk Tryd.prog B) c33 (initSt args objs) (EndA (tabT tab) [] objs.length (mvOf args objs) [] r objs' news)) (hn : args.length ≤ Tryd.f33.ntmps := by exact Nat.le_of_ble_eq_true rfl) (hlen : objs'.length = objs.length := by rfl) : Ok B 33 args objs r objs' news :=
 callMB tabOk mixed Tryd.func33 Tryd.call33 (hints [] [([0, 6, 7], [.par 0]), ([], []), ([0, 6, 7, 8], [.par 0]), ([], []), ([0, 6, 7, 8, 30], [.par 0]), ([0, 6, 7, 8], [.par 0]), ([0, 6, 7, 8], [.par 0]), ([], []), ([0, 6, 7, 8, 38], [.par 0]), ([], []), ([0, 6, 7, 8], [.par 0]), ([], [])]) ⟨[], [], [], []⟩ (by kernel_rfl) rfl rfl (by decide) hn hlen h
def c34 : AC :=
 (.seq (.reg (.mk [1, 2, 3, 4] [.par 0, .loc 4] []) [⟨none, some 4, .box 2 [(.own 2 []), (.own 2 [])] (.t 0)⟩,
 ⟨none, some 8, .mvS none (.v (.bool false))⟩])
  (.seq (.regD (.mk [1, 9, 10] [.par 0, .loc 9, .loc 10] []) [(0, 2), (1, 2), (0, 5), (1, 5), (2, 5), (3, 5), (4, 5), (0, 6), (2, 6), (3, 6), (0, 7), (1, 7), (2, 7), (3, 7), (4, 7), (5, 7), (6, 7), (0, 8), (1, 8), (2, 8), (3, 8), (4, 8), (0, 9), (2, 9), (3, 9), (0, 10), (1, 10), (2, 10), (3, 10), (4, 10), (5, 10), (6, 10), (7, 10), (8, 10), (9, 10), (0, 11), (1, 11), (2, 11), (3, 11), (4, 11), (5, 11), (6, 11), (7, 11), (8, 11), (9, 11), (10, 11), (5, 12), (6, 12), (7, 12), (8, 12), (9, 12)] [⟨none, some 12, .fa 0 (.t 4)⟩,
 ⟨none, some 13, .load none false (.t 12)⟩,
 ⟨none, some 14, .mv none (.t 2)⟩,
 ⟨none, some 15, .ia (some 2) none (.t 13) (.t 14)⟩,
 ⟨none, some 16, .load (some 2) false (.t 15)⟩,
 ⟨none, some 17, .fa 0 (.t 4)⟩,
 ⟨none, some 18, .load none false (.t 17)⟩,
 ⟨none, some 19, .mv none (.t 3)⟩,
 ⟨none, some 20, .ia (some 2) none (.t 18) (.t 19)⟩,
 ⟨none, some 21, .load (some 2) false (.t 20)⟩,
 ⟨none, some 9, .alloc [(.str []), (.own 1 [])]⟩,
 ⟨none, some 10, .alloc [(.str []), (.own 1 [])]⟩,
 ⟨none, none, .store 2 none (.t 9) (.t 16)⟩,
 ⟨none, none, .store 2 none (.t 10) (.t 21)⟩])
  (.seq (.seq (.reg (.mk [1, 9, 10, 41] [.par 0, .loc 9, .loc 10] []) [⟨none, some 22, .fa 0 (.t 9)⟩,
 ⟨none, some 23, .load none false (.t 22)⟩,
 ⟨none, some 24, .fa 0 (.t 10)⟩,
 ⟨none, some 25, .load none false (.t 24)⟩,
 ⟨none, some 26, .bin [] .neq (.t 23) (.t 25)⟩,
 ⟨none, some 27, .mv none (.t 26)⟩,
 ⟨some (27, false), some 28, .fa 1 (.t 9)⟩,
 ⟨some (27, false), some 29, .load none false (.t 28)⟩,
 ⟨some (27, false), some 30, .lenSl (.t 29)⟩,
 ⟨some (27, false), some 31, .fa 1 (.t 10)⟩,
 ⟨some (27, false), some 32, .load none false (.t 31)⟩,
 ⟨some (27, false), some 33, .lenSl (.t 32)⟩,
 ⟨some (27, false), some 34, .bin [] .neq (.t 30) (.t 33)⟩,
 ⟨none, some 35, .pick (.t 27) (.v (.bool true)) (.t 34)⟩,
 ⟨none, some 36, .mv none (.t 35)⟩,
 ⟨some (36, false), some 37, .fa 1 (.t 9)⟩,
 ⟨some (36, false), some 38, .load none false (.t 37)⟩,
 ⟨some (36, false), some 39, .lenSl (.t 38)⟩,
 ⟨some (36, false), some 40, .bin [] .eql (.t 39) (.v (.int .i64 0))⟩,
 ⟨none, some 41, .pick (.t 36) (.v (.bool true)) (.t 40)⟩])
  (.cond (.t 41) (.seq (.reg (.mk [8] [.par 0] []) [⟨none, some 8, .mvS none (.v (.bool false))⟩])
  .ret) .skip))
  (.seq (.seq (.reg (.mk [1, 9, 10, 11] [.par 0, .loc 9, .loc 10] []) [⟨none, some 11, .mvS none (.v (.int .i64 0))⟩])
  (.block 0 (.loop (.mk [1, 9, 10, 11] [.par 0, .loc 9, .loc 10] []) (.seq (.seq (.reg (.mk [1, 9, 10, 11, 46] [.par 0, .loc 9, .loc 10] []) [⟨none, some 42, .mv none (.t 11)⟩,
 ⟨none, some 43, .fa 1 (.t 9)⟩,
 ⟨none, some 44, .load none false (.t 43)⟩,
 ⟨none, some 45, .lenSl (.t 44)⟩,
 ⟨none, some 46, .bin [] .lss (.t 42) (.t 45)⟩])
  (.cond (.t 46) .skip (.exit 0)))
  (.seq (.block 1 (.seq (.regD (.mk [1, 9, 10, 11, 65] [.par 0, .loc 9, .loc 10] []) [(0, 1), (0, 2), (0, 3), (1, 3), (2, 3), (0, 4), (0, 5), (0, 8), (1, 8), (2, 8), (3, 8), (4, 8), (5, 8), (6, 8), (7, 8), (0, 9), (1, 9), (2, 9), (3, 9), (4, 9), (5, 9), (6, 9), (7, 9), (8, 9), (0, 10), (1, 10), (3, 10), (4, 10), (6, 10), (8, 10), (0, 11), (1, 11), (2, 11), (3, 11), (4, 11), (5, 11), (6, 11), (7, 11), (8, 11), (9, 11), (10, 11), (0, 12), (1, 12), (2, 12), (3, 12), (4, 12), (5, 12), (6, 12), (7, 12), (8, 12), (0, 13), (1, 13), (3, 13), (4, 13), (6, 13), (8, 13), (0, 14), (1, 14), (2, 14), (3, 14), (4, 14), (5, 14), (6, 14), (7, 14), (0, 15), (1, 15), (3, 15), (4, 15), (6, 15)] [⟨none, some 49, .mv (some 1) (.t 1)⟩,
 ⟨none, some 50, .fa 1 (.t 9)⟩,
 ⟨none, some 51, .load none false (.t 50)⟩,
 ⟨none, some 52, .mv none (.t 11)⟩,
 ⟨none, some 53, .ia (some 1) none (.t 51) (.t 52)⟩,
 ⟨none, some 54, .load none false (.t 53)⟩,
 ⟨none, some 55, .ia (some 1) none (.t 49) (.t 54)⟩,
 ⟨none, some 56, .load none false (.t 55)⟩,
 ⟨none, some 57, .mv (some 1) (.t 1)⟩,
 ⟨none, some 58, .fa 1 (.t 10)⟩,
 ⟨none, some 59, .load none false (.t 58)⟩,
 ⟨none, some 60, .mv none (.t 11)⟩,
 ⟨none, some 61, .ia (some 1) none (.t 59) (.t 60)⟩,
 ⟨none, some 62, .load none false (.t 61)⟩,
 ⟨none, some 63, .ia (some 1) none (.t 57) (.t 62)⟩,
 ⟨none, some 64, .load none false (.t 63)⟩,
 ⟨none, some 65, .bin [] .neq (.t 56) (.t 64)⟩])
  (.cond (.t 65) (.seq (.reg (.mk [8] [.par 0] []) [⟨none, some 8, .mvS none (.v (.bool false))⟩])
  .ret) .skip)))
  (.reg (.mk [1, 9, 10, 11] [.par 0, .loc 9, .loc 10] []) [⟨none, some 47, .mv none (.t 11)⟩,
 ⟨none, some 48, .bin [] .add (.t 47) (.v (.int .i64 1))⟩,
 ⟨none, some 11, .mvS none (.t 48)⟩]))))))
  (.seq (.reg (.mk [8] [.par 0] []) [⟨none, some 8, .mvS none (.v (.bool true))⟩])
  .ret)))))
theorem k34 {B : Heap} {args : List V} {objs : List Ob} {r : V} {objs' news : List Ob} (h : acwp (COk Tryd.prog B) c34 (initSt args objs) (EndA (tabT tab) [.tmp 8] objs.length (mvOf args objs) [] r objs' news)) (hn : args.length ≤ Tryd.f34.ntmps := by exact Nat.le_of_ble_eq_true rfl) (hlen : objs'.length = objs.length := by rfl) : Ok B 34 args objs r objs' news :=
 callMB tabOk mixed Tryd.func34 Tryd.call34 (hints [] [([1, 2, 3, 4], [.par 0, .loc 4]), ([], []), ([1, 9, 10], [.par 0, .loc 9, .loc 10]), ([], []), ([1, 9, 10, 41], [.par 0, .loc 9, .loc 10]), ([], []), ([8], [.par 0]), ([], []), ([1, 9, 10, 11], [.par 0, .loc 9, .loc 10]), ([], []), ([1, 9, 10, 11, 46], [.par 0, .loc 9, .loc 10]), ([1, 9, 10, 11], [.par 0, .loc 9, .loc 10]), ([1, 9, 10, 11], [.par 0, .loc 9, .loc 10]), ([], []), ([1, 9, 10, 11, 65], [.par 0, .loc 9, .loc 10]), ([], []), ([8], [.par 0]), ([], []), ([8], [.par 0]), ([], [])]) ⟨[8], [], [], []⟩ (by kernel_rfl) rfl rfl (by decide) hn hlen h
def c35 : AC :=
 (.seq (.reg (.mk [0] [] []) [⟨none, some 2, .mvS (some 1) (.v .nils)⟩])
 (.seq (.seq (.reg (.mk [0, 4] [] []) [⟨none, some 3, .mv (some 1) (.t 0)⟩,
 ⟨none, some 4, .bin [5] .eql (.t 3) (.v .nils)⟩])
  (.cond (.t 4) (.seq (.reg (.mk [2] [] []) [⟨none, some 2, .mvS (some 1) (.v .nils)⟩])
  .ret) .skip))
  (.seq (.reg (.mk [2] [] []) [⟨none, some 5, .buildSl 1 []⟩,
 ⟨none, some 6, .mv (some 1) (.t 0)⟩,
 ⟨none, some 7, .app 1 8 (.t 5) (.t 6)⟩,
 ⟨none, some 2, .mvS (some 1) (.t 7)⟩])
  .ret)))
theorem k35 {B : Heap} {args : List V} {objs : List Ob} {r : V} {objs' news : List Ob} (h : acwp (COk Tryd.prog B) c35 (initSt args objs) (EndA (tabT tab) [.tmp 2] objs.length (mvOf args objs) [] r objs' news)) (hn : args.length ≤ Tryd.f35.ntmps := by exact Nat.le_of_ble_eq_true rfl) (hlen : objs'.length = objs.length := by rfl) : Ok B 35 args objs r objs' news :=
 callMB tabOk mixed Tryd.func35 Tryd.call35 (hints [] [([0], []), ([], []), ([0, 4], []), ([], []), ([2], []), ([], []), ([2], []), ([], [])]) ⟨[2], [], [], []⟩ (by kernel_rfl) rfl rfl (by decide) hn hlen h
def c35m : AC :=
 (.seq (.reg (.mk [0] [] []) [⟨none, some 2, .mvS (some 1) (.v .nils)⟩])
 (.seq (.seq (.reg (.mk [0, 4] [] []) [⟨none, some 3, .mv (some 1) (.t 0)⟩,
 ⟨none, some 4, .bin [5] .eql (.t 3) (.v .nils)⟩])
  (.cond (.t 4) (.seq (.reg (.mk [2] [.loc 5] []) [⟨none, some 2, .mvS (some 1) (.v .nils)⟩])
  .ret) .skip))
  (.seq (.reg (.mk [2] [.loc 5] []) [⟨none, some 5, .buildMu 1 [.int .i64 0] []⟩,
 ⟨none, some 6, .mv (some 1) (.t 0)⟩,
 ⟨none, some 7, .app 1 8 (.t 5) (.t 6)⟩,
 ⟨none, some 2, .mvS (some 1) (.t 7)⟩])
  .ret)))
theorem k35m {B : Heap} {args : List V} {objs : List Ob} {r : V} {objs' news : List Ob} (h : acwp (COk Tryd.prog B) c35m (initSt args objs) (EndA (tabT tab) [.tmp 2] objs.length (mvOf args objs) [.loc 5] r objs' news)) (hn : args.length ≤ Tryd.f35.ntmps := by exact Nat.le_of_ble_eq_true rfl) (hlen : objs'.length = objs.length := by rfl) : Ok B 35 args objs r objs' news :=
 callMB tabOk mixed Tryd.func35 Tryd.call35 (hints [] [([0], []), ([], []), ([0, 4], []), ([], []), ([2], [.loc 5]), ([], []), ([2], [.loc 5]), ([], [])]) ⟨[2], [5], [], []⟩ (by kernel_rfl) rfl rfl (by decide) hn hlen h
def c36 : AC :=
 (.seq (.reg (.mk [0, 1] [.par 0] []) [⟨none, some 4, .mvS none (.v (.str []))⟩])
 (.seq (.reg (.mk [1, 5] [.par 0] []) [⟨none, some 8, .mv none (.t 0)⟩,
 ⟨none, some 9, .lenStr (.t 8)⟩,
 ⟨none, some 10, .call [none] none 0 46 [.t 9]⟩,
 ⟨none, some 11, .bin [] .add (.t 10) (.v (.str [58]))⟩,
 ⟨none, some 12, .mv none (.t 0)⟩,
 ⟨none, some 13, .bin [] .add (.t 11) (.t 12)⟩,
 ⟨none, some 5, .mvS none (.t 13)⟩])
  (.seq (.seq (.reg (.mk [5, 14, 15, 16] [.par 0] []) [⟨none, some 14, .mv (some 1) (.t 1)⟩,
 ⟨none, some 15, .lenSl (.t 14)⟩,
 ⟨none, some 16, .mv none (.v (.int .i64 0))⟩])
  (.block 0 (.loop (.mk [5, 14, 15, 16] [.par 0] []) (.seq (.reg (.mk [5, 14, 15, 16, 17] [.par 0] []) [⟨none, some 17, .bin [] .lss (.t 16) (.t 15)⟩])
  (.seq (.cond (.t 17) .skip (.exit 0))
  (.seq (.block 1 (.seq (.reg (.mk [5, 7, 14, 15, 16] [.par 0] []) [⟨none, some 18, .ia (some 1) none (.t 14) (.t 16)⟩,
 ⟨none, some 19, .load none false (.t 18)⟩,
 ⟨none, some 7, .mvS none (.t 19)⟩])
  (.reg (.mk [5, 14, 15, 16] [.par 0] []) [⟨none, some 20, .mv none (.t 5)⟩,
 ⟨none, some 21, .mv none (.t 7)⟩,
 ⟨none, some 22, .call [none] none 0 46 [.t 21]⟩,
 ⟨none, some 23, .bin [] .add (.v (.str [44])) (.t 22)⟩,
 ⟨none, some 24, .bin [] .add (.t 20) (.t 23)⟩,
 ⟨none, some 5, .mvS none (.t 24)⟩])))
  (.reg (.mk [5, 14, 15, 16] [.par 0] []) [⟨none, some 25, .bin [] .add (.t 16) (.v (.int .i64 1))⟩,
 ⟨none, some 16, .mv none (.t 25)⟩])))))))
  (.seq (.reg (.mk [4] [.par 0] []) [⟨none, some 26, .mvS none (.t 5)⟩,
 ⟨none, some 4, .mvS none (.t 26)⟩])
  .ret))))
theorem k36 {B : Heap} {args : List V} {objs : List Ob} {r : V} {objs' news : List Ob} (h : acwp (COk Tryd.prog B) c36 (initSt args objs) (EndA (tabT tab) [.tmp 4] objs.length (mvOf args objs) [] r objs' news)) (hn : args.length ≤ Tryd.f36.ntmps := by exact Nat.le_of_ble_eq_true rfl) (hlen : objs'.length = objs.length := by rfl) : Ok B 36 args objs r objs' news :=
 callMB tabOk mixed Tryd.func36 Tryd.call36 (hints [] [([0, 1], [.par 0]), ([], []), ([1, 5], [.par 0]), ([], []), ([5, 14, 15, 16], [.par 0]), ([], []), ([5, 14, 15, 16, 17], [.par 0]), ([5, 14, 15, 16], [.par 0]), ([5, 7, 14, 15, 16], [.par 0]), ([], []), ([5, 14, 15, 16], [.par 0]), ([], []), ([5, 14, 15, 16], [.par 0]), ([], []), ([4], [.par 0]), ([], [])]) ⟨[4], [], [], []⟩ (by kernel_rfl) rfl rfl (by decide) hn hlen h
def c37 : AC :=
 (.seq (.reg (.mk [0, 1] [.par 0, .par 1, .par 2, .par 3, .par 4, .par 5, .par 6, .loc 27, .loc 36] [.par 2, .par 3, .par 4, .par 6]) [⟨none, some 10, .mv none (.t 0)⟩,
 ⟨none, some 11, .mv none (.t 0)⟩,
 ⟨none, some 12, .nilc (.t 11)⟩,
 ⟨none, some 13, .fa 3 (.t 12)⟩,
 ⟨none, some 14, .load none true (.t 13)⟩,
 ⟨none, some 15, .mv none (.t 1)⟩,
 ⟨none, some 16, .buildSl 1 [.t 15]⟩,
 ⟨none, some 17, .app 1 8 (.t 14) (.t 16)⟩,
 ⟨none, some 18, .nilc (.t 10)⟩,
 ⟨none, some 19, .fa 3 (.t 18)⟩,
 ⟨none, none, .store 1 (some 1) (.t 19) (.t 17)⟩])
  (.seq (.reg (.mk [0, 1] [.par 0, .par 1, .par 2, .par 3, .par 4, .par 5, .par 6, .loc 27, .loc 36] [.par 2, .par 3, .par 4, .par 6]) [⟨none, some 20, .mv none (.t 0)⟩,
 ⟨none, some 21, .mv none (.t 0)⟩,
 ⟨none, some 22, .nilc (.t 21)⟩,
 ⟨none, some 23, .fa 4 (.t 22)⟩,
 ⟨none, some 24, .load none true (.t 23)⟩,
 ⟨none, some 25, .mv none (.t 1)⟩,
 ⟨none, some 26, .buildSl 1 [.t 25]⟩,
 ⟨none, some 27, .buildMu 1 [(.own 1 [])] [.t 26]⟩,
 ⟨none, some 28, .app 1 24 (.t 24) (.t 27)⟩,
 ⟨none, some 29, .nilc (.t 20)⟩,
 ⟨none, some 30, .fa 4 (.t 29)⟩,
 ⟨none, none, .store 1 (some 1) (.t 30) (.t 28)⟩])
  (.seq (.reg (.mk [0, 1] [.par 0, .par 1, .par 2, .par 3, .par 4, .par 5, .par 6, .loc 27, .loc 36] [.par 2, .par 3, .par 4, .par 6]) [⟨none, some 31, .mv none (.t 0)⟩,
 ⟨none, some 32, .mv none (.t 0)⟩,
 ⟨none, some 33, .nilc (.t 32)⟩,
 ⟨none, some 34, .fa 5 (.t 33)⟩,
 ⟨none, some 35, .load none true (.t 34)⟩,
 ⟨none, some 36, .buildMu 1 [(.own 1 [])] [.v .nils]⟩,
 ⟨none, some 37, .app 1 24 (.t 35) (.t 36)⟩,
 ⟨none, some 38, .nilc (.t 31)⟩,
 ⟨none, some 39, .fa 5 (.t 38)⟩,
 ⟨none, none, .store 1 (some 1) (.t 39) (.t 37)⟩])
  (.seq (.reg (.mk [0, 1] [.par 0, .par 1, .par 2, .par 3, .par 4, .par 5, .par 6, .loc 27, .loc 36] [.par 2, .par 3, .par 4, .par 6]) [⟨none, some 40, .mv none (.t 0)⟩,
 ⟨none, some 41, .mv none (.t 0)⟩,
 ⟨none, some 42, .nilc (.t 41)⟩,
 ⟨none, some 43, .fa 7 (.t 42)⟩,
 ⟨none, some 44, .load none true (.t 43)⟩,
 ⟨none, some 45, .build [(0, 1), (1, 1), (2, 1)] [.int .i64 0, .int .i64 0, .bool false] [] []⟩,
 ⟨none, some 46, .buildSl 3 [.t 45]⟩,
 ⟨none, some 47, .app 3 24 (.t 44) (.t 46)⟩,
 ⟨none, some 48, .nilc (.t 40)⟩,
 ⟨none, some 49, .fa 7 (.t 48)⟩,
 ⟨none, none, .store 1 (some 3) (.t 49) (.t 47)⟩])
  (.seq (.seq (.reg (.mk [0, 1, 57, 58, 59] [.par 0, .par 1, .par 2, .par 3, .par 4, .par 5, .par 6, .loc 27, .loc 36] [.par 2, .par 3, .par 4, .par 6]) [⟨none, some 50, .mv none (.t 0)⟩,
 ⟨none, some 51, .nilc (.t 50)⟩,
 ⟨none, some 52, .fa 0 (.t 51)⟩,
 ⟨none, some 53, .load none false (.t 52)⟩,
 ⟨none, some 54, .mv none (.t 1)⟩,
 ⟨none, some 55, .ia (some 2) none (.t 53) (.t 54)⟩,
 ⟨none, some 56, .fa 1 (.t 55)⟩,
 ⟨none, some 57, .load none false (.t 56)⟩,
 ⟨none, some 58, .lenSl (.t 57)⟩,
 ⟨none, some 59, .mv none (.v (.int .i64 0))⟩])
  (.block 0 (.loop (.mk [0, 1, 57, 58, 59] [.par 0, .par 1, .par 2, .par 3, .par 4, .par 5, .par 6, .loc 27, .loc 36] [.par 2, .par 3, .par 4, .par 6]) (.seq (.reg (.mk [0, 1, 57, 58, 59, 60] [.par 0, .par 1, .par 2, .par 3, .par 4, .par 5, .par 6, .loc 27, .loc 36] [.par 2, .par 3, .par 4, .par 6]) [⟨none, some 60, .bin [] .lss (.t 59) (.t 58)⟩])
  (.seq (.cond (.t 60) .skip (.exit 0))
  (.seq (.block 1 (.seq (.reg (.mk [0, 1, 5, 57, 58, 59] [.par 0, .par 1, .par 2, .par 3, .par 4, .par 5, .par 6, .loc 27, .loc 36] [.par 2, .par 3, .par 4, .par 6]) [⟨none, some 61, .ia (some 1) none (.t 57) (.t 59)⟩,
 ⟨none, some 62, .load none false (.t 61)⟩,
 ⟨none, some 5, .mvS none (.t 62)⟩])
  (.seq (.reg (.mk [0, 1, 6, 57, 58, 59] [.par 0, .par 1, .par 2, .par 3, .par 4, .par 5, .par 6, .loc 27, .loc 36] [.par 2, .par 3, .par 4, .par 6]) [⟨none, some 63, .mv none (.t 0)⟩,
 ⟨none, some 64, .mv none (.t 5)⟩,
 ⟨none, some 65, .call [none, none] none 0 31 [.t 63, .t 64]⟩,
 ⟨none, some 6, .mvS none (.t 65)⟩])
  (.regD (.mk [0, 1, 57, 58, 59] [.par 0, .par 1, .par 2, .par 3, .par 4, .par 5, .par 6, .loc 27, .loc 36] [.par 2, .par 3, .par 4, .par 6]) [(0, 4), (1, 4), (2, 4), (3, 4), (0, 5), (1, 5), (2, 5), (3, 5), (4, 5), (0, 6), (1, 6), (2, 6), (3, 6), (4, 6), (0, 7), (1, 7), (2, 7), (3, 7), (4, 7), (0, 8), (1, 8), (2, 8), (4, 8), (0, 9), (1, 9), (2, 9), (3, 9), (4, 9), (5, 9), (6, 9), (7, 9), (8, 9), (0, 10), (1, 10), (2, 10), (3, 10), (4, 10), (0, 11), (1, 11), (2, 11), (4, 11), (0, 12), (1, 12), (2, 12), (3, 12), (4, 12), (5, 12), (6, 12), (7, 12), (8, 12), (9, 12), (10, 12), (11, 12), (0, 13), (1, 13), (2, 13), (3, 13), (4, 13), (5, 13), (6, 13), (7, 13), (8, 13), (9, 13), (10, 13), (11, 13), (0, 14), (1, 14), (2, 14), (3, 14), (4, 14)] [⟨none, some 66, .mv none (.t 0)⟩,
 ⟨none, some 67, .nilc (.t 66)⟩,
 ⟨none, some 68, .fa 5 (.t 67)⟩,
 ⟨none, some 69, .load none false (.t 68)⟩,
 ⟨none, some 70, .mv none (.t 6)⟩,
 ⟨none, some 71, .mv none (.t 0)⟩,
 ⟨none, some 72, .nilc (.t 71)⟩,
 ⟨none, some 73, .fa 5 (.t 72)⟩,
 ⟨none, some 74, .load none false (.t 73)⟩,
 ⟨none, some 75, .mv none (.t 6)⟩,
 ⟨none, some 76, .ia (some 1) none (.t 74) (.t 75)⟩,
 ⟨none, some 77, .load none true (.t 76)⟩,
 ⟨none, some 78, .mv none (.t 1)⟩,
 ⟨none, some 79, .buildSl 1 [.t 78]⟩,
 ⟨none, some 80, .app 1 8 (.t 77) (.t 79)⟩,
 ⟨none, some 81, .ia (some 1) none (.t 69) (.t 70)⟩,
 ⟨none, none, .store 1 (some 1) (.t 81) (.t 80)⟩]))))
  (.reg (.mk [0, 1, 57, 58, 59] [.par 0, .par 1, .par 2, .par 3, .par 4, .par 5, .par 6, .loc 27, .loc 36] [.par 2, .par 3, .par 4, .par 6]) [⟨none, some 82, .bin [] .add (.t 59) (.v (.int .i64 1))⟩,
 ⟨none, some 59, .mv none (.t 82)⟩])))))))
  (.seq (.reg (.mk [0, 1, 7] [.par 0, .par 1, .par 2, .par 3, .par 4, .par 5, .par 6, .loc 27, .loc 36] [.par 2, .par 3, .par 4, .par 6]) [⟨none, some 83, .mv none (.t 0)⟩,
 ⟨none, some 84, .mv none (.t 1)⟩,
 ⟨none, some 85, .call [none, none] none 0 47 [.t 83, .t 84]⟩,
 ⟨none, some 7, .mvS none (.t 85)⟩])
  (.seq (.seq (.reg (.mk [0, 1, 7, 8, 9] [.par 0, .par 1, .par 2, .par 3, .par 4, .par 5, .par 6, .loc 27, .loc 36] [.par 2, .par 3, .par 4, .par 6]) [⟨none, some 87, .mv none (.t 0)⟩,
 ⟨none, some 88, .nilc (.t 87)⟩,
 ⟨none, some 89, .fa 6 (.t 88)⟩,
 ⟨none, some 90, .load none false (.t 89)⟩,
 ⟨none, some 91, .mv none (.t 7)⟩,
 ⟨none, some 92, .mlook 4 (.int .i64 0) true (.t 90) (.t 91)⟩,
 ⟨none, some 86, .mv none (.t 92)⟩,
 ⟨none, some 93, .ext (.t 86) 0⟩,
 ⟨none, some 94, .ext (.t 86) 1⟩,
 ⟨none, some 8, .mvS none (.t 93)⟩,
 ⟨none, some 9, .mvS none (.t 94)⟩])
  (.seq (.reg (.mk [0, 1, 7, 8, 95] [.par 0, .par 1, .par 2, .par 3, .par 4, .par 5, .par 6, .loc 27, .loc 36] [.par 2, .par 3, .par 4, .par 6]) [⟨none, some 95, .mv none (.t 9)⟩])
  (.cond (.t 95) (.seq (.reg (.mk [] [.par 0, .par 1, .par 2, .par 3, .par 4, .par 5, .par 6, .loc 27, .loc 36] [.par 2, .par 3, .par 4, .par 6]) [⟨none, some 96, .mv none (.t 0)⟩,
 ⟨none, some 97, .mv none (.t 1)⟩,
 ⟨none, some 98, .mv none (.t 8)⟩,
 ⟨none, some 99, .build [(0, 1), (1, 1), (2, 1)] [.int .i64 0, .int .i64 0, .int .i64 0] [0, 1, 2] [.t 97, .t 98, (.v (.int .i64 (-1)))]⟩,
 ⟨none, some 100, .buildSl 3 [.t 99]⟩,
 ⟨none, some 101, .call [none, (some 3)] (some (1, 100)) 0 39 [.t 96, .t 100]⟩])
  .ret) .skip)))
  (.reg (.mk [] [.par 0, .par 1, .par 2, .par 3, .par 4, .par 5, .par 6, .loc 27, .loc 36] [.par 2, .par 3, .par 4, .par 6]) [⟨none, some 102, .mv none (.t 0)⟩,
 ⟨none, some 103, .nilc (.t 102)⟩,
 ⟨none, some 104, .fa 6 (.t 103)⟩,
 ⟨none, some 105, .load none false (.t 104)⟩,
 ⟨none, some 106, .mv none (.t 7)⟩,
 ⟨none, some 107, .mv none (.t 1)⟩,
 ⟨none, none, .mput 4 (.t 105) (.t 106) (.t 107)⟩]))))))))
theorem k37 {B : Heap} {args : List V} {objs : List Ob} {r : V} {objs' news : List Ob} (h : acwp (COk Tryd.prog B) c37 (initSt args objs) (EndA (tabT tab) [] objs.length (mvOf args objs) [] r objs' news)) (hn : args.length ≤ Tryd.f37.ntmps := by exact Nat.le_of_ble_eq_true rfl) (hlen : objs'.length = objs.length := by rfl) : Ok B 37 args objs r objs' news :=
 callMB tabOk mixed Tryd.func37 Tryd.call37 (hints qC1 [([0, 1], [.par 0, .par 1, .par 2, .par 3, .par 4, .par 5, .par 6, .loc 27, .loc 36]), ([], [.par 0, .par 1, .par 2, .par 3, .par 4, .par 5, .par 6, .loc 27, .loc 36]), ([0, 1], [.par 0, .par 1, .par 2, .par 3, .par 4, .par 5, .par 6, .loc 27, .loc 36]), ([], [.par 0, .par 1, .par 2, .par 3, .par 4, .par 5, .par 6, .loc 27, .loc 36]), ([0, 1], [.par 0, .par 1, .par 2, .par 3, .par 4, .par 5, .par 6, .loc 27, .loc 36]), ([], [.par 0, .par 1, .par 2, .par 3, .par 4, .par 5, .par 6, .loc 27, .loc 36]), ([0, 1], [.par 0, .par 1, .par 2, .par 3, .par 4, .par 5, .par 6, .loc 27, .loc 36]), ([], [.par 0, .par 1, .par 2, .par 3, .par 4, .par 5, .par 6, .loc 27, .loc 36]), ([0, 1, 57, 58, 59], [.par 0, .par 1, .par 2, .par 3, .par 4, .par 5, .par 6, .loc 27, .loc 36]), ([], [.par 0, .par 1, .par 2, .par 3, .par 4, .par 5, .par 6, .loc 27, .loc 36]), ([0, 1, 57, 58, 59, 60], [.par 0, .par 1, .par 2, .par 3, .par 4, .par 5, .par 6, .loc 27, .loc 36]), ([0, 1, 57, 58, 59], [.par 0, .par 1, .par 2, .par 3, .par 4, .par 5, .par 6, .loc 27, .loc 36]), ([0, 1, 5, 57, 58, 59], [.par 0, .par 1, .par 2, .par 3, .par 4, .par 5, .par 6, .loc 27, .loc 36]), ([], [.par 0, .par 1, .par 2, .par 3, .par 4, .par 5, .par 6, .loc 27, .loc 36]), ([0, 1, 6, 57, 58, 59], [.par 0, .par 1, .par 2, .par 3, .par 4, .par 5, .par 6, .loc 27, .loc 36]), ([], [.par 0, .par 1, .par 2, .par 3, .par 4, .par 5, .par 6, .loc 27, .loc 36]), ([0, 1, 57, 58, 59], [.par 0, .par 1, .par 2, .par 3, .par 4, .par 5, .par 6, .loc 27, .loc 36]), ([], [.par 0, .par 1, .par 2, .par 3, .par 4, .par 5, .par 6, .loc 27, .loc 36]), ([0, 1, 57, 58, 59], [.par 0, .par 1, .par 2, .par 3, .par 4, .par 5, .par 6, .loc 27, .loc 36]), ([], [.par 0, .par 1, .par 2, .par 3, .par 4, .par 5, .par 6, .loc 27, .loc 36]), ([0, 1, 7], [.par 0, .par 1, .par 2, .par 3, .par 4, .par 5, .par 6, .loc 27, .loc 36]), ([], [.par 0, .par 1, .par 2, .par 3, .par 4, .par 5, .par 6, .loc 27, .loc 36]), ([0, 1, 7, 8, 9], [.par 0, .par 1, .par 2, .par 3, .par 4, .par 5, .par 6, .loc 27, .loc 36]), ([], [.par 0, .par 1, .par 2, .par 3, .par 4, .par 5, .par 6, .loc 27, .loc 36]), ([0, 1, 7, 8, 95], [.par 0, .par 1, .par 2, .par 3, .par 4, .par 5, .par 6, .loc 27, .loc 36]), ([], [.par 0, .par 1, .par 2, .par 3, .par 4, .par 5, .par 6, .loc 27, .loc 36]), ([], [.par 0, .par 1, .par 2, .par 3, .par 4, .par 5, .par 6, .loc 27, .loc 36]), ([], [.par 0, .par 1, .par 2, .par 3, .par 4, .par 5, .par 6, .loc 27, .loc 36]), ([], [.par 0, .par 1, .par 2, .par 3, .par 4, .par 5, .par 6, .loc 27, .loc 36]), ([], [.par 0, .par 1, .par 2, .par 3, .par 4, .par 5, .par 6, .loc 27, .loc 36])]) ⟨[], [27, 36], [(39, 1)], []⟩ (by kernel_rfl) rfl rfl (by decide) hn hlen h
def c39 : AC :=
 (.block 0 (.loop (.mk [0, 1] [.par 0, .par 1, .par 2, .par 3, .par 4, .par 5, .par 6] [.par 2, .par 3, .par 4, .par 6]) (.seq (.seq (.reg (.mk [0, 1, 9] [.par 0, .par 1, .par 2, .par 3, .par 4, .par 5, .par 6] [.par 2, .par 3, .par 4, .par 6]) [⟨none, some 7, .mv (some 3) (.t 1)⟩,
 ⟨none, some 8, .lenSl (.t 7)⟩,
 ⟨none, some 9, .bin [] .gtr (.t 8) (.v (.int .i64 0))⟩])
  (.cond (.t 9) .skip (.exit 0)))
  (.block 1 (.seq (.reg (.mk [0, 1, 4] [.par 0, .par 1, .par 2, .par 3, .par 4, .par 5, .par 6, .loc 4] [.par 2, .par 3, .par 4, .par 6]) [⟨none, some 10, .mv (some 3) (.t 1)⟩,
 ⟨none, some 11, .ia (some 3) none (.t 10) (.v (.int .i64 0))⟩,
 ⟨none, some 12, .load (some 3) false (.t 11)⟩,
 ⟨none, some 4, .alloc [.int .i64 0, .int .i64 0, .int .i64 0]⟩,
 ⟨none, none, .store 3 none (.t 4) (.t 12)⟩])
  (.seq (.reg (.mk [0, 1, 4] [.par 0, .par 1, .par 2, .par 3, .par 4, .par 5, .par 6, .loc 4] [.par 2, .par 3, .par 4, .par 6]) [⟨none, some 13, .mvS (some 3) (.t 1)⟩,
 ⟨none, some 14, .slc false (some 3) true (.t 13) (some (.v (.int .i64 1))) none⟩,
 ⟨none, some 1, .mvS (some 3) (.t 14)⟩])
  (.seq (.regD (.mk [0, 1, 4, 5, 6] [.par 0, .par 1, .par 2, .par 3, .par 4, .par 5, .par 6, .loc 4] [.par 2, .par 3, .par 4, .par 6]) [(0, 1), (0, 2), (0, 4), (1, 4), (2, 4), (3, 4), (0, 5), (1, 5), (2, 5), (3, 5), (4, 5), (0, 6), (1, 6), (3, 6), (4, 6)] [⟨none, some 15, .mv none (.t 0)⟩,
 ⟨none, some 16, .fa 0 (.t 4)⟩,
 ⟨none, some 17, .load none false (.t 16)⟩,
 ⟨none, some 18, .call [none, none] none 0 31 [.t 15, .t 17]⟩,
 ⟨none, some 19, .mv none (.t 0)⟩,
 ⟨none, some 20, .fa 1 (.t 4)⟩,
 ⟨none, some 21, .load none false (.t 20)⟩,
 ⟨none, some 22, .call [none, none] none 0 31 [.t 19, .t 21]⟩,
 ⟨none, some 5, .mvS none (.t 18)⟩,
 ⟨none, some 6, .mvS none (.t 22)⟩])
  (.seq (.seq (.reg (.mk [0, 1, 4, 5, 6, 25] [.par 0, .par 1, .par 2, .par 3, .par 4, .par 5, .par 6, .loc 4] [.par 2, .par 3, .par 4, .par 6]) [⟨none, some 23, .mv none (.t 5)⟩,
 ⟨none, some 24, .mv none (.t 6)⟩,
 ⟨none, some 25, .bin [] .eql (.t 23) (.t 24)⟩])
  (.cond (.t 25) (.exit 1) .skip))
  (.seq (.seq (.regD (.mk [0, 1, 4, 5, 6, 42] [.par 0, .par 1, .par 2, .par 3, .par 4, .par 5, .par 6, .loc 4] [.par 2, .par 3, .par 4, .par 6]) [(0, 4), (1, 4), (2, 4), (3, 4), (0, 8), (1, 8), (2, 8), (3, 8), (4, 8), (5, 8), (6, 8), (7, 8), (0, 9), (1, 9), (2, 9), (3, 9), (4, 9), (5, 9), (6, 9), (7, 9), (0, 10), (1, 10), (2, 10), (3, 10), (4, 10), (5, 10), (6, 10), (7, 10), (0, 11), (1, 11), (2, 11), (4, 11), (5, 11), (7, 11), (0, 12), (1, 12), (2, 12), (3, 12), (4, 12), (5, 12), (6, 12), (7, 12), (8, 12), (9, 12), (10, 12), (11, 12), (0, 13), (1, 13), (2, 13), (3, 13), (4, 13), (5, 13), (6, 13), (7, 13), (0, 14), (1, 14), (2, 14), (4, 14), (5, 14), (7, 14), (0, 15), (1, 15), (2, 15), (3, 15), (4, 15), (5, 15), (6, 15), (7, 15)] [⟨none, some 26, .mv none (.t 0)⟩,
 ⟨none, some 27, .nilc (.t 26)⟩,
 ⟨none, some 28, .fa 4 (.t 27)⟩,
 ⟨none, some 29, .load none false (.t 28)⟩,
 ⟨none, some 30, .mv none (.t 5)⟩,
 ⟨none, some 31, .ia (some 1) none (.t 29) (.t 30)⟩,
 ⟨none, some 32, .load none false (.t 31)⟩,
 ⟨none, some 33, .lenSl (.t 32)⟩,
 ⟨none, some 34, .mv none (.t 0)⟩,
 ⟨none, some 35, .nilc (.t 34)⟩,
 ⟨none, some 36, .fa 4 (.t 35)⟩,
 ⟨none, some 37, .load none false (.t 36)⟩,
 ⟨none, some 38, .mv none (.t 6)⟩,
 ⟨none, some 39, .ia (some 1) none (.t 37) (.t 38)⟩,
 ⟨none, some 40, .load none false (.t 39)⟩,
 ⟨none, some 41, .lenSl (.t 40)⟩,
 ⟨none, some 42, .bin [] .gtr (.t 33) (.t 41)⟩])
  (.cond (.t 42) (.seq (.reg (.mk [0, 1, 4, 5, 6] [.par 0, .par 1, .par 2, .par 3, .par 4, .par 5, .par 6, .loc 4] [.par 2, .par 3, .par 4, .par 6]) [⟨none, some 43, .mv none (.t 6)⟩,
 ⟨none, some 44, .mv none (.t 5)⟩,
 ⟨none, some 5, .mvS none (.t 43)⟩,
 ⟨none, some 6, .mvS none (.t 44)⟩])
  (.reg (.mk [0, 1, 4, 5, 6] [.par 0, .par 1, .par 2, .par 3, .par 4, .par 5, .par 6, .loc 4] [.par 2, .par 3, .par 4, .par 6]) [⟨none, some 45, .fa 1 (.t 4)⟩,
 ⟨none, some 46, .load none false (.t 45)⟩,
 ⟨none, some 47, .fa 0 (.t 4)⟩,
 ⟨none, some 48, .load none false (.t 47)⟩,
 ⟨none, some 49, .fa 0 (.t 4)⟩,
 ⟨none, none, .store 1 none (.t 49) (.t 46)⟩,
 ⟨none, some 50, .fa 1 (.t 4)⟩,
 ⟨none, none, .store 1 none (.t 50) (.t 48)⟩])) .skip))
  (.seq (.reg (.mk [0, 1, 4, 5, 6] [.par 0, .par 1, .par 2, .par 3, .par 4, .par 5, .par 6, .loc 4] [.par 2, .par 3, .par 4, .par 6]) [⟨none, some 51, .mv none (.t 0)⟩,
 ⟨none, some 52, .fa 0 (.t 4)⟩,
 ⟨none, some 53, .load none false (.t 52)⟩,
 ⟨none, some 54, .call [none, none] none 0 48 [.t 51, .t 53]⟩])
  (.seq (.regD (.mk [0, 1, 5, 6] [.par 0, .par 1, .par 2, .par 3, .par 4, .par 5, .par 6] [.par 2, .par 3, .par 4, .par 6]) [(0, 4), (1, 4), (2, 4), (3, 4), (0, 5), (1, 5), (2, 5), (0, 6), (1, 6), (2, 6), (3, 6), (4, 6), (5, 6), (0, 7), (1, 7), (2, 7), (4, 7), (0, 8), (1, 8), (2, 8), (3, 8), (4, 8), (5, 8), (6, 8), (7, 8), (0, 9), (1, 9), (2, 9), (4, 9), (6, 9), (0, 10), (1, 10), (2, 10), (3, 10), (4, 10), (5, 10)] [⟨none, some 55, .mv none (.t 0)⟩,
 ⟨none, some 56, .nilc (.t 55)⟩,
 ⟨none, some 57, .fa 7 (.t 56)⟩,
 ⟨none, some 58, .load none false (.t 57)⟩,
 ⟨none, some 59, .fa 0 (.t 4)⟩,
 ⟨none, some 60, .load none false (.t 59)⟩,
 ⟨none, some 61, .fa 1 (.t 4)⟩,
 ⟨none, some 62, .load none false (.t 61)⟩,
 ⟨none, some 63, .fa 2 (.t 4)⟩,
 ⟨none, some 64, .load none false (.t 63)⟩,
 ⟨none, some 65, .build [(0, 1), (1, 1), (2, 1)] [.int .i64 0, .int .i64 0, .bool false] [0, 1, 2] [.t 62, .t 64, (.v (.bool true))]⟩,
 ⟨none, some 66, .ia (some 3) none (.t 58) (.t 60)⟩,
 ⟨none, none, .store 3 none (.t 66) (.t 65)⟩])
  (.seq (.reg (.mk [0, 1, 5, 6] [.par 0, .par 1, .par 2, .par 3, .par 4, .par 5, .par 6] [.par 2, .par 3, .par 4, .par 6]) [⟨none, some 67, .mv none (.t 0)⟩,
 ⟨none, some 68, .nilc (.t 67)⟩,
 ⟨none, some 69, .fa 3 (.t 68)⟩,
 ⟨none, some 70, .load none false (.t 69)⟩,
 ⟨none, some 71, .mv none (.t 5)⟩,
 ⟨none, some 72, .mv none (.t 6)⟩,
 ⟨none, some 73, .ia (some 1) none (.t 70) (.t 71)⟩,
 ⟨none, none, .store 1 none (.t 73) (.t 72)⟩])
  (.seq (.regD (.mk [0, 1, 5, 6] [.par 0, .par 1, .par 2, .par 3, .par 4, .par 5, .par 6] [.par 2, .par 3, .par 4, .par 6]) [(0, 4), (1, 4), (2, 4), (3, 4), (0, 5), (1, 5), (2, 5), (3, 5), (4, 5), (0, 6), (1, 6), (2, 6), (3, 6), (4, 6), (0, 7), (1, 7), (2, 7), (3, 7), (4, 7), (0, 8), (1, 8), (2, 8), (4, 8), (0, 9), (1, 9), (2, 9), (3, 9), (4, 9), (5, 9), (6, 9), (7, 9), (8, 9), (0, 10), (1, 10), (2, 10), (3, 10), (4, 10), (0, 11), (1, 11), (2, 11), (4, 11), (0, 12), (1, 12), (2, 12), (3, 12), (4, 12), (5, 12), (6, 12), (7, 12), (8, 12), (9, 12), (10, 12), (11, 12), (0, 13), (1, 13), (2, 13), (3, 13), (4, 13), (5, 13), (6, 13), (7, 13), (8, 13), (9, 13), (10, 13), (11, 13), (0, 14), (1, 14), (2, 14), (3, 14), (4, 14), (5, 14), (6, 14), (7, 14), (8, 14), (9, 14), (10, 14), (11, 14), (0, 15), (1, 15), (2, 15), (4, 15), (5, 15), (6, 15), (7, 15), (9, 15), (10, 15), (0, 16), (1, 16), (2, 16), (3, 16), (4, 16), (5, 16), (6, 16), (7, 16), (8, 16), (9, 16), (10, 16), (11, 16), (12, 16), (13, 16), (14, 16), (15, 16), (0, 17), (1, 17), (2, 17), (3, 17), (4, 17), (5, 17), (6, 17), (7, 17), (8, 17), (9, 17), (10, 17), (11, 17), (0, 18), (1, 18), (2, 18), (4, 18), (5, 18), (6, 18), (7, 18), (9, 18), (10, 18), (0, 19), (1, 19), (2, 19), (3, 19), (4, 19)] [⟨none, some 74, .mv none (.t 0)⟩,
 ⟨none, some 75, .nilc (.t 74)⟩,
 ⟨none, some 76, .fa 4 (.t 75)⟩,
 ⟨none, some 77, .load none false (.t 76)⟩,
 ⟨none, some 78, .mv none (.t 6)⟩,
 ⟨none, some 79, .mv none (.t 0)⟩,
 ⟨none, some 80, .nilc (.t 79)⟩,
 ⟨none, some 81, .fa 4 (.t 80)⟩,
 ⟨none, some 82, .load none false (.t 81)⟩,
 ⟨none, some 83, .mv none (.t 6)⟩,
 ⟨none, some 84, .ia (some 1) none (.t 82) (.t 83)⟩,
 ⟨none, some 85, .load none true (.t 84)⟩,
 ⟨none, some 86, .mv none (.t 0)⟩,
 ⟨none, some 87, .nilc (.t 86)⟩,
 ⟨none, some 88, .fa 4 (.t 87)⟩,
 ⟨none, some 89, .load none false (.t 88)⟩,
 ⟨none, some 90, .mv none (.t 5)⟩,
 ⟨none, some 91, .ia (some 1) none (.t 89) (.t 90)⟩,
 ⟨none, some 92, .load none false (.t 91)⟩,
 ⟨none, some 93, .app 1 8 (.t 85) (.t 92)⟩,
 ⟨none, some 94, .ia (some 1) none (.t 77) (.t 78)⟩,
 ⟨none, none, .store 1 (some 1) (.t 94) (.t 93)⟩])
  (.seq (.reg (.mk [0, 1, 5, 6] [.par 0, .par 1, .par 2, .par 3, .par 4, .par 5, .par 6] [.par 2, .par 3, .par 4, .par 6]) [⟨none, some 95, .mv none (.t 0)⟩,
 ⟨none, some 96, .nilc (.t 95)⟩,
 ⟨none, some 97, .fa 4 (.t 96)⟩,
 ⟨none, some 98, .load none false (.t 97)⟩,
 ⟨none, some 99, .mv none (.t 5)⟩,
 ⟨none, some 100, .ia (some 1) none (.t 98) (.t 99)⟩,
 ⟨none, none, .store 1 (some 1) (.t 100) (.v .nils)⟩])
  (.reg (.mk [0, 1] [.par 0, .par 1, .par 2, .par 3, .par 4, .par 5, .par 6] [.par 2, .par 3, .par 4, .par 6]) [⟨none, some 101, .mvS (some 3) (.t 1)⟩,
 ⟨none, some 102, .mv none (.t 0)⟩,
 ⟨none, some 103, .mv none (.t 5)⟩,
 ⟨none, some 104, .mv none (.t 6)⟩,
 ⟨none, some 105, .call [none, none, none] none 0 49 [.t 102, .t 103, .t 104]⟩,
 ⟨none, some 106, .app 3 24 (.t 101) (.t 105)⟩,
 ⟨none, some 1, .mvS (some 3) (.t 106)⟩])))))))))))))))
theorem k39 {B : Heap} {args : List V} {objs : List Ob} {r : V} {objs' news : List Ob} (h : acwp (COk Tryd.prog B) c39 (initSt args objs) (EndA (tabT tab) [] objs.length (mvOf args objs) [] r objs' news)) (hn : args.length ≤ Tryd.f39.ntmps := by exact Nat.le_of_ble_eq_true rfl) (hlen : objs'.length = objs.length := by rfl) : Ok B 39 args objs r objs' news :=
 callMB tabOk mixed Tryd.func39 Tryd.call39 (hints [.par 2, .par 3, .par 4, .par 6] [([0, 1, 9], qC0), ([0, 1], qC0), ([0, 1, 4], [.par 0, .par 1, .par 2, .par 3, .par 4, .par 5, .par 6, .loc 4]), ([], []), ([0, 1, 4], [.par 0, .par 1, .par 2, .par 3, .par 4, .par 5, .par 6, .loc 4]), ([], []), ([0, 1, 4, 5, 6], [.par 0, .par 1, .par 2, .par 3, .par 4, .par 5, .par 6, .loc 4]), ([], []), ([0, 1, 4, 5, 6, 25], [.par 0, .par 1, .par 2, .par 3, .par 4, .par 5, .par 6, .loc 4]), ([], []), ([0, 1, 4, 5, 6, 42], [.par 0, .par 1, .par 2, .par 3, .par 4, .par 5, .par 6, .loc 4]), ([], []), ([0, 1, 4, 5, 6], [.par 0, .par 1, .par 2, .par 3, .par 4, .par 5, .par 6, .loc 4]), ([], []), ([0, 1, 4, 5, 6], [.par 0, .par 1, .par 2, .par 3, .par 4, .par 5, .par 6, .loc 4]), ([], []), ([0, 1, 4, 5, 6], [.par 0, .par 1, .par 2, .par 3, .par 4, .par 5, .par 6, .loc 4]), ([], []), ([0, 1, 5, 6], qC0), ([], []), ([0, 1, 5, 6], qC0), ([], []), ([0, 1, 5, 6], qC0), ([], []), ([0, 1, 5, 6], qC0), ([], []), ([0, 1], qC0), ([], [])]) ⟨[1, 14], [], [], []⟩ (by kernel_rfl) rfl rfl (by decide) hn hlen h
def c42 : AC :=
 (.seq (.reg (.mk [1, 2, 3, 6] [.loc 3, .loc 6] []) [⟨none, some 3, .box 2 [(.own 2 []), (.own 2 [])] (.t 0)⟩,
 ⟨none, some 6, .alloc [(.own 2 []), (.own 2 [])]⟩,
 ⟨none, some 7, .mvS none (.v (.int .i64 0))⟩,
 ⟨none, some 8, .mvS none (.v (.int .i64 0))⟩])
  (.seq (.seq (.reg (.mk [1, 2, 3, 6, 9] [.loc 3, .loc 6] []) [⟨none, some 9, .mvS none (.v (.int .i64 0))⟩])
  (.block 0 (.loop (.mk [1, 2, 3, 6, 9] [.loc 3, .loc 6] []) (.seq (.seq (.reg (.mk [1, 2, 3, 6, 9, 15] [.loc 3, .loc 6] []) [⟨none, some 12, .mv none (.t 9)⟩,
 ⟨none, some 13, .mv (some 1) (.t 2)⟩,
 ⟨none, some 14, .lenSl (.t 13)⟩,
 ⟨none, some 15, .bin [] .lss (.t 12) (.t 14)⟩])
  (.cond (.t 15) .skip (.exit 0)))
  (.seq (.block 1 (.seq (.regD (.mk [1, 2, 3, 6, 9, 32] [.loc 3, .loc 6] []) [(0, 1), (6, 7), (6, 10), (7, 10), (8, 10), (9, 10), (6, 11), (7, 11), (8, 11), (9, 11), (6, 12), (7, 12), (8, 12), (9, 12)] [⟨none, some 18, .mv (some 1) (.t 2)⟩,
 ⟨none, some 19, .mv none (.t 9)⟩,
 ⟨none, some 20, .ia (some 1) none (.t 18) (.t 19)⟩,
 ⟨none, some 21, .load none false (.t 20)⟩,
 ⟨none, some 22, .bin [] .lss (.t 21) (.v (.int .i64 0))⟩,
 ⟨none, some 23, .mv none (.t 22)⟩,
 ⟨some (23, false), some 24, .mv (some 1) (.t 2)⟩,
 ⟨some (23, false), some 25, .mv none (.t 9)⟩,
 ⟨some (23, false), some 26, .ia (some 1) none (.t 24) (.t 25)⟩,
 ⟨some (23, false), some 27, .load none false (.t 26)⟩,
 ⟨some (23, false), some 28, .fa 0 (.t 3)⟩,
 ⟨some (23, false), some 29, .load none false (.t 28)⟩,
 ⟨some (23, false), some 30, .lenSl (.t 29)⟩,
 ⟨some (23, false), some 31, .bin [] .geq (.t 27) (.t 30)⟩,
 ⟨none, some 32, .pick (.t 23) (.v (.bool true)) (.t 31)⟩])
  (.cond (.t 32) (.seq (.reg (.mk [6, 7, 8] [.loc 6] []) [⟨none, some 33, .load (some 2) false (.t 3)⟩,
 ⟨none, none, .store 2 none (.t 6) (.t 33)⟩,
 ⟨none, some 7, .mvS none (.v (.int .i64 0))⟩,
 ⟨none, some 8, .mvS none (.v (.int .i64 50))⟩])
  .ret) .skip)))
  (.reg (.mk [1, 2, 3, 6, 9] [.loc 3, .loc 6] []) [⟨none, some 16, .mv none (.t 9)⟩,
 ⟨none, some 17, .bin [] .add (.t 16) (.v (.int .i64 1))⟩,
 ⟨none, some 9, .mvS none (.t 17)⟩]))))))
  (.seq (.seq (.reg (.mk [1, 2, 3, 6, 10] [.loc 3, .loc 6] []) [⟨none, some 10, .mvS none (.v (.int .i64 0))⟩])
  (.block 2 (.loop (.mk [1, 2, 3, 6, 10] [.loc 3, .loc 6] []) (.seq (.seq (.reg (.mk [1, 2, 3, 6, 10, 38] [.loc 3, .loc 6] []) [⟨none, some 34, .mv none (.t 10)⟩,
 ⟨none, some 35, .fa 0 (.t 3)⟩,
 ⟨none, some 36, .load none false (.t 35)⟩,
 ⟨none, some 37, .lenSl (.t 36)⟩,
 ⟨none, some 38, .bin [] .lss (.t 34) (.t 37)⟩])
  (.cond (.t 38) .skip (.exit 2)))
  (.seq (.block 3 (.seq (.reg (.mk [1, 2, 3, 6, 10, 58] [.loc 3, .loc 6] []) [⟨none, some 41, .fa 0 (.t 3)⟩,
 ⟨none, some 42, .load none false (.t 41)⟩,
 ⟨none, some 43, .mv none (.t 10)⟩,
 ⟨none, some 44, .ia (some 2) none (.t 42) (.t 43)⟩,
 ⟨none, some 45, .fa 0 (.t 44)⟩,
 ⟨none, some 46, .load none false (.t 45)⟩,
 ⟨none, some 47, .mv none (.t 1)⟩,
 ⟨none, some 48, .bin [] .eql (.t 46) (.t 47)⟩,
 ⟨none, some 49, .mv none (.t 48)⟩,
 ⟨some (49, true), some 50, .fa 0 (.t 3)⟩,
 ⟨some (49, true), some 51, .load none false (.t 50)⟩,
 ⟨some (49, true), some 52, .mv none (.t 10)⟩,
 ⟨some (49, true), some 53, .ia (some 2) none (.t 51) (.t 52)⟩,
 ⟨some (49, true), some 54, .fa 1 (.t 53)⟩,
 ⟨some (49, true), some 55, .load none false (.t 54)⟩,
 ⟨some (49, true), some 56, .mv (some 1) (.t 2)⟩,
 ⟨some (49, true), some 57, .call [(some 1), (some 1)] none 0 19 [.t 55, .t 56]⟩,
 ⟨none, some 58, .pick (.t 49) (.t 57) (.v (.bool false))⟩])
  (.cond (.t 58) (.seq (.reg (.mk [6, 7, 8] [.loc 6] []) [⟨none, some 59, .load (some 2) false (.t 3)⟩,
 ⟨none, some 60, .mvS none (.t 10)⟩,
 ⟨none, none, .store 2 none (.t 6) (.t 59)⟩,
 ⟨none, some 7, .mvS none (.t 60)⟩,
 ⟨none, some 8, .mvS none (.v (.int .i64 0))⟩])
  .ret) .skip)))
  (.reg (.mk [1, 2, 3, 6, 10] [.loc 3, .loc 6] []) [⟨none, some 39, .mv none (.t 10)⟩,
 ⟨none, some 40, .bin [] .add (.t 39) (.v (.int .i64 1))⟩,
 ⟨none, some 10, .mvS none (.t 40)⟩]))))))
  (.seq (.seq (.reg (.mk [1, 2, 3, 6, 64] [.loc 3, .loc 6] []) [⟨none, some 61, .fa 0 (.t 3)⟩,
 ⟨none, some 62, .load none false (.t 61)⟩,
 ⟨none, some 63, .lenSl (.t 62)⟩,
 ⟨none, some 64, .bin [] .geq (.t 63) (.v (.int .i64 16384))⟩])
  (.cond (.t 64) (.seq (.reg (.mk [6, 7, 8] [.loc 6] []) [⟨none, some 65, .load (some 2) false (.t 3)⟩,
 ⟨none, none, .store 2 none (.t 6) (.t 65)⟩,
 ⟨none, some 7, .mvS none (.v (.int .i64 0))⟩,
 ⟨none, some 8, .mvS none (.v (.int .i64 2))⟩])
  .ret) .skip))
  (.seq (.reg (.mk [1, 2, 3, 6, 11] [.loc 3, .loc 6] []) [⟨none, some 66, .buildSl 2 []⟩,
 ⟨none, some 67, .fa 0 (.t 3)⟩,
 ⟨none, some 68, .load none false (.t 67)⟩,
 ⟨none, some 69, .app 2 40 (.t 66) (.t 68)⟩,
 ⟨none, some 11, .mvS (some 2) (.t 69)⟩])
  (.seq (.reg (.mk [3, 6, 11] [.loc 3, .loc 6] []) [⟨none, some 70, .mvS (some 2) (.t 11)⟩,
 ⟨none, some 71, .mv none (.t 1)⟩,
 ⟨none, some 72, .buildSl 1 []⟩,
 ⟨none, some 73, .mv (some 1) (.t 2)⟩,
 ⟨none, some 74, .app 1 8 (.t 72) (.t 73)⟩,
 ⟨none, some 75, .build [(0, 1), (1, 1)] [(.str []), (.own 1 [])] [0, 1] [.t 71, .t 74]⟩,
 ⟨none, some 76, .buildSl 2 [.t 75]⟩,
 ⟨none, some 77, .app 2 40 (.t 70) (.t 76)⟩,
 ⟨none, some 11, .mvS (some 2) (.t 77)⟩])
  (.seq (.reg (.mk [6, 7, 8] [.loc 6] []) [⟨none, some 78, .mv (some 2) (.t 11)⟩,
 ⟨none, some 79, .fa 1 (.t 3)⟩,
 ⟨none, some 80, .load none false (.t 79)⟩,
 ⟨none, some 81, .build [(0, 1), (1, 1)] [.nils, .nils] [0, 1] [.t 78, .t 80]⟩,
 ⟨none, some 82, .mv (some 2) (.t 11)⟩,
 ⟨none, some 83, .lenSl (.t 82)⟩,
 ⟨none, some 84, .bin [] .sub (.t 83) (.v (.int .i64 1))⟩,
 ⟨none, none, .store 2 none (.t 6) (.t 81)⟩,
 ⟨none, some 7, .mvS none (.t 84)⟩,
 ⟨none, some 8, .mvS none (.v (.int .i64 0))⟩])
  .ret)))))))
theorem k42 {B : Heap} {args : List V} {objs : List Ob} {r : V} {objs' news : List Ob} (h : acwp (COk Tryd.prog B) c42 (initSt args objs) (EndA (tabT tab) [.cell 6 28, .tmp 7, .tmp 8] objs.length (mvOf args objs) [] r objs' news)) (hn : args.length ≤ Tryd.f42.ntmps := by exact Nat.le_of_ble_eq_true rfl) (hlen : objs'.length = objs.length := by rfl) : Ok B 42 args objs r objs' news :=
 callMB tabOk mixed Tryd.func42 Tryd.call42 (hints [] [([1, 2, 3, 6], [.loc 3, .loc 6]), ([], []), ([1, 2, 3, 6, 9], [.loc 3, .loc 6]), ([], []), ([1, 2, 3, 6, 9, 15], [.loc 3, .loc 6]), ([1, 2, 3, 6, 9], [.loc 3, .loc 6]), ([1, 2, 3, 6, 9], [.loc 3, .loc 6]), ([], []), ([1, 2, 3, 6, 9, 32], [.loc 3, .loc 6]), ([], []), ([6, 7, 8], [.loc 6]), ([], []), ([1, 2, 3, 6, 10], [.loc 3, .loc 6]), ([], []), ([1, 2, 3, 6, 10, 38], [.loc 3, .loc 6]), ([1, 2, 3, 6, 10], [.loc 3, .loc 6]), ([1, 2, 3, 6, 10], [.loc 3, .loc 6]), ([], []), ([1, 2, 3, 6, 10, 58], [.loc 3, .loc 6]), ([], []), ([6, 7, 8], [.loc 6]), ([], []), ([1, 2, 3, 6, 64], [.loc 3, .loc 6]), ([], []), ([6, 7, 8], [.loc 6]), ([], []), ([1, 2, 3, 6, 11], [.loc 3, .loc 6]), ([], []), ([3, 6, 11], [.loc 3, .loc 6]), ([], []), ([6, 7, 8], [.loc 6]), ([], [])]) ⟨[6, 7, 8], [], [], []⟩ (by kernel_rfl) rfl rfl (by decide) hn hlen h
def c43 : AC :=
 (.seq (.reg (.mk [1, 2, 3, 6] [.loc 3, .loc 6] []) [⟨none, some 3, .box 2 [(.own 2 []), (.own 2 [])] (.t 0)⟩,
 ⟨none, some 6, .alloc [(.own 2 []), (.own 2 [])]⟩,
 ⟨none, some 7, .mvS none (.v (.int .i64 0))⟩,
 ⟨none, some 8, .mvS none (.v (.int .i64 0))⟩])
  (.seq (.seq (.reg (.mk [1, 2, 3, 6, 19] [.loc 3, .loc 6] []) [⟨none, some 10, .load (some 2) false (.t 3)⟩,
 ⟨none, some 11, .mv none (.t 1)⟩,
 ⟨none, some 12, .call [none, none] none 0 14 [.t 10, .t 11]⟩,
 ⟨none, some 13, .un .not (.t 12)⟩,
 ⟨none, some 14, .mv none (.t 13)⟩,
 ⟨some (14, false), some 15, .load (some 2) false (.t 3)⟩,
 ⟨some (14, false), some 16, .mv none (.t 2)⟩,
 ⟨some (14, false), some 17, .call [none, none] none 0 14 [.t 15, .t 16]⟩,
 ⟨some (14, false), some 18, .un .not (.t 17)⟩,
 ⟨none, some 19, .pick (.t 14) (.v (.bool true)) (.t 18)⟩])
  (.cond (.t 19) (.seq (.reg (.mk [6, 7, 8] [.loc 6] []) [⟨none, some 20, .load (some 2) false (.t 3)⟩,
 ⟨none, none, .store 2 none (.t 6) (.t 20)⟩,
 ⟨none, some 7, .mvS none (.v (.int .i64 0))⟩,
 ⟨none, some 8, .mvS none (.v (.int .i64 50))⟩])
  .ret) .skip))
  (.seq (.seq (.reg (.mk [1, 2, 3, 6, 24] [.loc 3, .loc 6] []) [⟨none, some 21, .fa 1 (.t 3)⟩,
 ⟨none, some 22, .load none false (.t 21)⟩,
 ⟨none, some 23, .lenSl (.t 22)⟩,
 ⟨none, some 24, .bin [] .geq (.t 23) (.v (.int .i64 16384))⟩])
  (.cond (.t 24) (.seq (.reg (.mk [6, 7, 8] [.loc 6] []) [⟨none, some 25, .load (some 2) false (.t 3)⟩,
 ⟨none, none, .store 2 none (.t 6) (.t 25)⟩,
 ⟨none, some 7, .mvS none (.v (.int .i64 0))⟩,
 ⟨none, some 8, .mvS none (.v (.int .i64 2))⟩])
  .ret) .skip))
  (.seq (.reg (.mk [1, 2, 3, 6, 9] [.loc 3, .loc 6] []) [⟨none, some 26, .buildSl 2 []⟩,
 ⟨none, some 27, .fa 1 (.t 3)⟩,
 ⟨none, some 28, .load none false (.t 27)⟩,
 ⟨none, some 29, .app 2 16 (.t 26) (.t 28)⟩,
 ⟨none, some 9, .mvS (some 2) (.t 29)⟩])
  (.seq (.reg (.mk [3, 6, 9] [.loc 3, .loc 6] []) [⟨none, some 30, .mvS (some 2) (.t 9)⟩,
 ⟨none, some 31, .mv none (.t 1)⟩,
 ⟨none, some 32, .mv none (.t 2)⟩,
 ⟨none, some 33, .build [(0, 1), (1, 1)] [.int .i64 0, .int .i64 0] [0, 1] [.t 31, .t 32]⟩,
 ⟨none, some 34, .buildSl 2 [.t 33]⟩,
 ⟨none, some 35, .app 2 16 (.t 30) (.t 34)⟩,
 ⟨none, some 9, .mvS (some 2) (.t 35)⟩])
  (.seq (.reg (.mk [6, 7, 8] [.loc 6] []) [⟨none, some 36, .fa 0 (.t 3)⟩,
 ⟨none, some 37, .load none false (.t 36)⟩,
 ⟨none, some 38, .mv (some 2) (.t 9)⟩,
 ⟨none, some 39, .build [(0, 1), (1, 1)] [.nils, .nils] [0, 1] [.t 37, .t 38]⟩,
 ⟨none, some 40, .mv (some 2) (.t 9)⟩,
 ⟨none, some 41, .lenSl (.t 40)⟩,
 ⟨none, some 42, .bin [] .sub (.t 41) (.v (.int .i64 1))⟩,
 ⟨none, none, .store 2 none (.t 6) (.t 39)⟩,
 ⟨none, some 7, .mvS none (.t 42)⟩,
 ⟨none, some 8, .mvS none (.v (.int .i64 0))⟩])
  .ret))))))
theorem k43 {B : Heap} {args : List V} {objs : List Ob} {r : V} {objs' news : List Ob} (h : acwp (COk Tryd.prog B) c43 (initSt args objs) (EndA (tabT tab) [.cell 6 28, .tmp 7, .tmp 8] objs.length (mvOf args objs) [] r objs' news)) (hn : args.length ≤ Tryd.f43.ntmps := by exact Nat.le_of_ble_eq_true rfl) (hlen : objs'.length = objs.length := by rfl) : Ok B 43 args objs r objs' news :=
 callMB tabOk mixed Tryd.func43 Tryd.call43 (hints [] [([1, 2, 3, 6], [.loc 3, .loc 6]), ([], []), ([1, 2, 3, 6, 19], [.loc 3, .loc 6]), ([], []), ([6, 7, 8], [.loc 6]), ([], []), ([1, 2, 3, 6, 24], [.loc 3, .loc 6]), ([], []), ([6, 7, 8], [.loc 6]), ([], []), ([1, 2, 3, 6, 9], [.loc 3, .loc 6]), ([], []), ([3, 6, 9], [.loc 3, .loc 6]), ([], []), ([6, 7, 8], [.loc 6]), ([], [])]) ⟨[6, 7, 8], [], [], []⟩ (by kernel_rfl) rfl rfl (by decide) hn hlen h
def c44 : AC :=
 (.seq (.reg (.mk [0, 1, 2] [.par 0, .par 1, .par 2, .par 3, .par 4, .par 5, .par 6, .par 7, .par 8, .par 9] [.par 3, .par 5, .par 6, .par 7, .par 9]) [⟨none, some 6, .mvS none (.v (.int .i64 0))⟩])
 (.seq (.reg (.mk [0, 1, 2, 7] [.par 0, .par 1, .par 2, .par 3, .par 4, .par 5, .par 6, .par 7, .par 8, .par 9, .loc 9] [.par 3, .par 5, .par 6, .par 7, .par 9]) [⟨none, (some 9), .mkMap⟩,
 ⟨none, some 10, .mv none (.t 1)⟩,
 ⟨none, none, .mput 2 (.t 9) (.t 10) (.v (.int .i64 1))⟩,
 ⟨none, some 11, .mv none (.t 9)⟩,
 ⟨none, some 7, .mvS none (.t 11)⟩])
  (.seq (.seq (.reg (.mk [0, 2, 7, 8] [.par 0, .par 1, .par 2, .par 3, .par 4, .par 5, .par 6, .par 7, .par 8, .par 9, .loc 9] [.par 3, .par 5, .par 6, .par 7, .par 9]) [⟨none, some 12, .mv none (.t 1)⟩,
 ⟨none, some 8, .mvS none (.t 12)⟩])
  (.block 0 (.loop (.mk [0, 2, 7, 8] [.par 0, .par 1, .par 2, .par 3, .par 4, .par 5, .par 6, .par 7, .par 8, .par 9, .loc 9] [.par 3, .par 5, .par 6, .par 7, .par 9]) (.seq (.seq (.reg (.mk [0, 2, 7, 8, 23] [.par 0, .par 1, .par 2, .par 3, .par 4, .par 5, .par 6, .par 7, .par 8, .par 9, .loc 9] [.par 3, .par 5, .par 6, .par 7, .par 9]) [⟨none, some 13, .mv none (.t 0)⟩,
 ⟨none, some 14, .nilc (.t 13)⟩,
 ⟨none, some 15, .fa 0 (.t 14)⟩,
 ⟨none, some 16, .load none false (.t 15)⟩,
 ⟨none, some 17, .nilc (.t 16)⟩,
 ⟨none, some 18, .fa 7 (.t 17)⟩,
 ⟨none, some 19, .load none false (.t 18)⟩,
 ⟨none, some 20, .mv none (.t 8)⟩,
 ⟨none, some 21, .ia (some 3) none (.t 19) (.t 20)⟩,
 ⟨none, some 22, .fa 2 (.t 21)⟩,
 ⟨none, some 23, .load none false (.t 22)⟩])
  (.cond (.t 23) .skip (.exit 0)))
  (.block 1 (.seq (.reg (.mk [0, 2, 7, 8] [.par 0, .par 1, .par 2, .par 3, .par 4, .par 5, .par 6, .par 7, .par 8, .par 9, .loc 9] [.par 3, .par 5, .par 6, .par 7, .par 9]) [⟨none, some 24, .mv none (.t 0)⟩,
 ⟨none, some 25, .nilc (.t 24)⟩,
 ⟨none, some 26, .fa 0 (.t 25)⟩,
 ⟨none, some 27, .load none false (.t 26)⟩,
 ⟨none, some 28, .nilc (.t 27)⟩,
 ⟨none, some 29, .fa 7 (.t 28)⟩,
 ⟨none, some 30, .load none false (.t 29)⟩,
 ⟨none, some 31, .mv none (.t 8)⟩,
 ⟨none, some 32, .ia (some 3) none (.t 30) (.t 31)⟩,
 ⟨none, some 33, .fa 0 (.t 32)⟩,
 ⟨none, some 34, .load none false (.t 33)⟩,
 ⟨none, some 8, .mvS none (.t 34)⟩])
  (.reg (.mk [0, 2, 7, 8] [.par 0, .par 1, .par 2, .par 3, .par 4, .par 5, .par 6, .par 7, .par 8, .par 9, .loc 9] [.par 3, .par 5, .par 6, .par 7, .par 9]) [⟨none, some 35, .mv none (.t 7)⟩,
 ⟨none, some 36, .mv none (.t 8)⟩,
 ⟨none, none, .mput 2 (.t 35) (.t 36) (.v (.int .i64 1))⟩])))))))
  (.seq (.block 2 (.loop (.mk [0, 2, 7] [.par 0, .par 1, .par 2, .par 3, .par 4, .par 5, .par 6, .par 7, .par 8, .par 9, .loc 9] [.par 3, .par 5, .par 6, .par 7, .par 9]) (.seq (.seq (.reg (.mk [0, 2, 7, 40] [.par 0, .par 1, .par 2, .par 3, .par 4, .par 5, .par 6, .par 7, .par 8, .par 9, .loc 9] [.par 3, .par 5, .par 6, .par 7, .par 9]) [⟨none, some 37, .mv none (.t 7)⟩,
 ⟨none, some 38, .mv none (.t 2)⟩,
 ⟨none, some 39, .mlook 2 (.int .i64 0) false (.t 37) (.t 38)⟩,
 ⟨none, some 40, .bin [] .eql (.t 39) (.v (.int .i64 0))⟩])
  (.cond (.t 40) .skip (.exit 2)))
  (.block 3 (.reg (.mk [0, 2, 7] [.par 0, .par 1, .par 2, .par 3, .par 4, .par 5, .par 6, .par 7, .par 8, .par 9, .loc 9] [.par 3, .par 5, .par 6, .par 7, .par 9]) [⟨none, some 41, .mv none (.t 0)⟩,
 ⟨none, some 42, .nilc (.t 41)⟩,
 ⟨none, some 43, .fa 0 (.t 42)⟩,
 ⟨none, some 44, .load none false (.t 43)⟩,
 ⟨none, some 45, .nilc (.t 44)⟩,
 ⟨none, some 46, .fa 7 (.t 45)⟩,
 ⟨none, some 47, .load none false (.t 46)⟩,
 ⟨none, some 48, .mv none (.t 2)⟩,
 ⟨none, some 49, .ia (some 3) none (.t 47) (.t 48)⟩,
 ⟨none, some 50, .fa 0 (.t 49)⟩,
 ⟨none, some 51, .load none false (.t 50)⟩,
 ⟨none, some 2, .mvS none (.t 51)⟩])))))
  (.seq (.reg (.mk [6] [.par 0, .par 1, .par 2, .par 3, .par 4, .par 5, .par 6, .par 7, .par 8, .par 9] [.par 3, .par 5, .par 6, .par 7, .par 9]) [⟨none, some 52, .mvS none (.t 2)⟩,
 ⟨none, some 6, .mvS none (.t 52)⟩])
  .ret)))))
theorem k44 {B : Heap} {args : List V} {objs : List Ob} {r : V} {objs' news : List Ob} (h : acwp (COk Tryd.prog B) c44 (initSt args objs) (EndA (tabT tab) [.tmp 6] objs.length (mvOf args objs) [] r objs' news)) (hn : args.length ≤ Tryd.f44.ntmps := by exact Nat.le_of_ble_eq_true rfl) (hlen : objs'.length = objs.length := by rfl) : Ok B 44 args objs r objs' news :=
 callMB tabOk mixed Tryd.func44 Tryd.call44 (hints [.par 3, .par 5, .par 6, .par 7, .par 9] [([0, 1, 2], [.par 0, .par 1, .par 2, .par 3, .par 4, .par 5, .par 6, .par 7, .par 8, .par 9]), ([], []), ([0, 1, 2, 7], [.par 0, .par 1, .par 2, .par 3, .par 4, .par 5, .par 6, .par 7, .par 8, .par 9, .loc 9]), ([], []), ([0, 2, 7, 8], [.par 0, .par 1, .par 2, .par 3, .par 4, .par 5, .par 6, .par 7, .par 8, .par 9, .loc 9]), ([], []), ([0, 2, 7, 8, 23], [.par 0, .par 1, .par 2, .par 3, .par 4, .par 5, .par 6, .par 7, .par 8, .par 9, .loc 9]), ([0, 2, 7, 8], [.par 0, .par 1, .par 2, .par 3, .par 4, .par 5, .par 6, .par 7, .par 8, .par 9, .loc 9]), ([0, 2, 7, 8], [.par 0, .par 1, .par 2, .par 3, .par 4, .par 5, .par 6, .par 7, .par 8, .par 9, .loc 9]), ([], []), ([0, 2, 7, 8], [.par 0, .par 1, .par 2, .par 3, .par 4, .par 5, .par 6, .par 7, .par 8, .par 9, .loc 9]), ([], []), ([0, 2, 7, 40], [.par 0, .par 1, .par 2, .par 3, .par 4, .par 5, .par 6, .par 7, .par 8, .par 9, .loc 9]), ([0, 2, 7], [.par 0, .par 1, .par 2, .par 3, .par 4, .par 5, .par 6, .par 7, .par 8, .par 9, .loc 9]), ([0, 2, 7], [.par 0, .par 1, .par 2, .par 3, .par 4, .par 5, .par 6, .par 7, .par 8, .par 9, .loc 9]), ([], []), ([6], [.par 0, .par 1, .par 2, .par 3, .par 4, .par 5, .par 6, .par 7, .par 8, .par 9]), ([], [])]) ⟨[6], [], [], []⟩ (by kernel_rfl) rfl rfl (by decide) hn hlen h
def c45 : AC :=
 (.seq (.reg (.mk [0, 1, 2] [.par 0, .par 1, .par 2, .par 3, .par 4, .par 5, .par 6, .par 7, .par 8, .par 9] [.par 3, .par 5, .par 6, .par 7, .par 9]) [⟨none, some 6, .mvS (some 2) (.v .nils)⟩])
 (.seq (.reg (.mk [0, 1, 2, 7] [.par 0, .par 1, .par 2, .par 3, .par 4, .par 5, .par 6, .par 7, .par 8, .par 9] [.par 3, .par 5, .par 6, .par 7, .par 9]) [⟨none, some 7, .mvS (some 2) (.v .nils)⟩])
 (.seq (.block 0 (.loop (.mk [0, 1, 2, 7] [.par 0, .par 1, .par 2, .par 3, .par 4, .par 5, .par 6, .par 7, .par 8, .par 9] [.par 3, .par 5, .par 6, .par 7, .par 9]) (.seq (.seq (.reg (.mk [0, 1, 2, 7, 14] [.par 0, .par 1, .par 2, .par 3, .par 4, .par 5, .par 6, .par 7, .par 8, .par 9] [.par 3, .par 5, .par 6, .par 7, .par 9]) [⟨none, some 12, .mv none (.t 1)⟩,
 ⟨none, some 13, .mv none (.t 2)⟩,
 ⟨none, some 14, .bin [] .neq (.t 12) (.t 13)⟩])
  (.cond (.t 14) .skip (.exit 0)))
  (.block 1 (.seq (.reg (.mk [0, 1, 2, 7, 8] [.par 0, .par 1, .par 2, .par 3, .par 4, .par 5, .par 6, .par 7, .par 8, .par 9, .loc 8] [.par 3, .par 5, .par 6, .par 7, .par 9]) [⟨none, some 15, .mv none (.t 0)⟩,
 ⟨none, some 16, .nilc (.t 15)⟩,
 ⟨none, some 17, .fa 0 (.t 16)⟩,
 ⟨none, some 18, .load none false (.t 17)⟩,
 ⟨none, some 19, .nilc (.t 18)⟩,
 ⟨none, some 20, .fa 7 (.t 19)⟩,
 ⟨none, some 21, .load none false (.t 20)⟩,
 ⟨none, some 22, .mv none (.t 1)⟩,
 ⟨none, some 23, .ia (some 3) none (.t 21) (.t 22)⟩,
 ⟨none, some 24, .load (some 3) false (.t 23)⟩,
 ⟨none, some 8, .alloc [.int .i64 0, .int .i64 0, .bool false]⟩,
 ⟨none, none, .store 3 none (.t 8) (.t 24)⟩])
  (.seq (.seq (.reg (.mk [0, 1, 2, 7, 8, 27] [.par 0, .par 1, .par 2, .par 3, .par 4, .par 5, .par 6, .par 7, .par 8, .par 9, .loc 8] [.par 3, .par 5, .par 6, .par 7, .par 9]) [⟨none, some 25, .fa 1 (.t 8)⟩,
 ⟨none, some 26, .load none false (.t 25)⟩,
 ⟨none, some 27, .bin [] .geq (.t 26) (.v (.int .i64 0))⟩])
  (.cond (.t 27) (.regD (.mk [0, 2, 7, 8] [.par 0, .par 1, .par 2, .par 3, .par 4, .par 5, .par 6, .par 7, .par 8, .par 9, .loc 8] [.par 3, .par 5, .par 6, .par 7, .par 9]) [(0, 4), (1, 4), (2, 4), (3, 4), (0, 5), (1, 5), (2, 5)] [⟨none, some 28, .mv none (.t 0)⟩,
 ⟨none, some 29, .nilc (.t 28)⟩,
 ⟨none, some 30, .fa 2 (.t 29)⟩,
 ⟨none, some 31, .load none false (.t 30)⟩,
 ⟨none, some 32, .fa 1 (.t 8)⟩,
 ⟨none, some 33, .load none false (.t 32)⟩,
 ⟨none, some 34, .ia (some 1) none (.t 31) (.t 33)⟩,
 ⟨none, none, (.store 1 none (.t 34) (.v (.bool true)))⟩]) (.seq (.regD (.mk [0, 2, 7, 8, 9, 10] [.par 0, .par 1, .par 2, .par 3, .par 4, .par 5, .par 6, .par 7, .par 8, .par 9, .loc 8] [.par 3, .par 5, .par 6, .par 7, .par 9]) [(0, 7), (1, 7), (2, 7), (3, 7), (4, 7), (5, 7), (6, 7), (0, 11), (1, 11), (2, 11), (3, 11), (4, 11), (5, 11), (6, 11), (7, 11), (8, 11), (9, 11), (10, 11), (0, 12), (1, 12), (2, 12), (3, 12), (4, 12), (5, 12), (6, 12), (7, 12), (8, 12), (9, 12), (10, 12), (0, 13), (1, 13), (2, 13), (3, 13), (4, 13), (5, 13), (6, 13), (7, 13), (8, 13), (9, 13), (10, 13), (0, 14), (1, 14), (2, 14), (4, 14), (5, 14), (7, 14), (8, 14), (9, 14), (0, 15), (1, 15), (2, 15), (3, 15), (4, 15), (5, 15), (6, 15), (7, 15), (8, 15), (9, 15), (10, 15), (0, 16), (1, 16), (2, 16), (3, 16), (4, 16), (5, 16), (6, 16), (7, 16), (8, 16), (9, 16), (10, 16), (0, 17), (1, 17), (2, 17), (4, 17), (5, 17), (7, 17), (8, 17), (9, 17), (0, 18), (1, 18), (2, 18), (3, 18), (4, 18), (5, 18), (6, 18), (7, 18), (8, 18), (9, 18), (10, 18), (11, 18), (12, 18), (13, 18), (14, 18), (15, 18), (16, 18), (17, 18), (0, 19), (1, 19), (2, 19), (4, 19), (5, 19), (7, 19), (8, 19), (9, 19), (11, 19), (12, 19), (13, 19), (15, 19), (16, 19), (0, 20), (1, 20), (2, 20), (3, 20), (4, 20), (5, 20), (6, 20), (7, 20), (8, 20), (9, 20), (10, 20), (0, 21), (1, 21), (2, 21), (3, 21), (4, 21), (5, 21), (6, 21), (7, 21), (8, 21), (9, 21), (10, 21), (0, 22), (1, 22), (2, 22), (4, 22), (5, 22), (7, 22), (8, 22), (9, 22), (11, 23), (12, 23), (13, 23), (14, 23), (15, 23), (16, 23), (17, 23), (18, 23), (19, 23), (20, 23), (21, 23), (22, 23)] [⟨none, (some 35), (.mv none (.t 0))⟩,
 ⟨none, some 36, .nilc (.t 35)⟩,
 ⟨none, some 37, .fa 0 (.t 36)⟩,
 ⟨none, some 38, .load none false (.t 37)⟩,
 ⟨none, some 39, .nilc (.t 38)⟩,
 ⟨none, some 40, .fa 0 (.t 39)⟩,
 ⟨none, some 41, .load none false (.t 40)⟩,
 ⟨none, some 42, .mv none (.t 1)⟩,
 ⟨none, some 43, .ia (some 2) none (.t 41) (.t 42)⟩,
 ⟨none, some 44, .fa 1 (.t 43)⟩,
 ⟨none, some 45, .load none false (.t 44)⟩,
 ⟨none, some 46, .mv none (.t 0)⟩,
 ⟨none, some 47, .nilc (.t 46)⟩,
 ⟨none, some 48, .fa 0 (.t 47)⟩,
 ⟨none, some 49, .load none false (.t 48)⟩,
 ⟨none, some 50, .nilc (.t 49)⟩,
 ⟨none, some 51, .fa 0 (.t 50)⟩,
 ⟨none, some 52, .load none false (.t 51)⟩,
 ⟨none, some 53, .fa 0 (.t 8)⟩,
 ⟨none, some 54, .load none false (.t 53)⟩,
 ⟨none, some 55, .ia (some 2) none (.t 52) (.t 54)⟩,
 ⟨none, some 56, .fa 1 (.t 55)⟩,
 ⟨none, some 57, .load none false (.t 56)⟩,
 ⟨none, some 9, .mvS (some 1) (.t 45)⟩,
 ⟨none, some 10, .mvS (some 1) (.t 57)⟩])
  (.seq (.reg (.mk [0, 2, 7, 8, 9, 10, 59, 60] [.par 0, .par 1, .par 2, .par 3, .par 4, .par 5, .par 6, .par 7, .par 8, .par 9, .loc 8] [.par 3, .par 5, .par 6, .par 7, .par 9]) [⟨none, some 58, .mv (some 1) (.t 9)⟩,
 ⟨none, some 59, .lenSl (.t 58)⟩,
 ⟨none, some 60, .mv none (.v (.int .i64 0))⟩])
  (.block 2 (.loop (.mk [0, 2, 7, 8, 9, 10, 59, 60] [.par 0, .par 1, .par 2, .par 3, .par 4, .par 5, .par 6, .par 7, .par 8, .par 9, .loc 8] [.par 3, .par 5, .par 6, .par 7, .par 9]) (.seq (.reg (.mk [0, 2, 7, 8, 9, 10, 59, 60, 61] [.par 0, .par 1, .par 2, .par 3, .par 4, .par 5, .par 6, .par 7, .par 8, .par 9, .loc 8] [.par 3, .par 5, .par 6, .par 7, .par 9]) [⟨none, some 61, .bin [] .lss (.t 60) (.t 59)⟩])
  (.seq (.cond (.t 61) .skip (.exit 2))
  (.seq (.block 3 (.seq (.reg (.mk [0, 2, 7, 8, 9, 10, 11, 59, 60] [.par 0, .par 1, .par 2, .par 3, .par 4, .par 5, .par 6, .par 7, .par 8, .par 9, .loc 8] [.par 3, .par 5, .par 6, .par 7, .par 9]) [⟨none, some 62, .mv none (.t 60)⟩,
 ⟨none, some 11, .mvS none (.t 62)⟩])
  (.regD (.mk [0, 2, 7, 8, 9, 10, 59, 60] [.par 0, .par 1, .par 2, .par 3, .par 4, .par 5, .par 6, .par 7, .par 8, .par 9, .loc 8] [.par 3, .par 5, .par 6, .par 7, .par 9]) [(0, 1), (0, 2), (1, 2), (0, 3), (0, 4), (0, 5), (1, 5), (2, 5), (3, 5), (4, 5), (0, 6), (1, 6), (2, 6), (3, 6), (4, 6), (5, 6), (0, 7), (1, 7), (2, 7), (3, 7), (4, 7), (0, 8), (1, 8), (2, 8), (3, 8), (0, 9), (0, 10)] [⟨none, some 63, .mvS (some 2) (.t 7)⟩,
 ⟨none, some 64, .mv (some 1) (.t 9)⟩,
 ⟨none, some 65, .mv none (.t 11)⟩,
 ⟨none, some 66, .ia (some 1) none (.t 64) (.t 65)⟩,
 ⟨none, some 67, .load none false (.t 66)⟩,
 ⟨none, some 68, .mv (some 1) (.t 10)⟩,
 ⟨none, some 69, .mv none (.t 11)⟩,
 ⟨none, some 70, .ia (some 1) none (.t 68) (.t 69)⟩,
 ⟨none, some 71, .load none false (.t 70)⟩,
 ⟨none, some 72, .build [(0, 1), (1, 1)] [.int .i64 0, .int .i64 0] [0, 1] [.t 67, .t 71]⟩,
 ⟨none, some 73, .buildSl 2 [.t 72]⟩,
 ⟨none, some 74, .app 2 16 (.t 63) (.t 73)⟩,
 ⟨none, some 7, .mvS (some 2) (.t 74)⟩])))
  (.reg (.mk [0, 2, 7, 8, 9, 10, 59, 60] [.par 0, .par 1, .par 2, .par 3, .par 4, .par 5, .par 6, .par 7, .par 8, .par 9, .loc 8] [.par 3, .par 5, .par 6, .par 7, .par 9]) [⟨none, some 75, .bin [] .add (.t 60) (.v (.int .i64 1))⟩,
 ⟨none, some 60, .mv none (.t 75)⟩]))))))))))
  (.reg (.mk [0, 1, 2, 7] [.par 0, .par 1, .par 2, .par 3, .par 4, .par 5, .par 6, .par 7, .par 8, .par 9] [.par 3, .par 5, .par 6, .par 7, .par 9]) [⟨none, some 76, .fa 0 (.t 8)⟩,
 ⟨none, some 77, .load none false (.t 76)⟩,
 ⟨none, some 1, .mvS none (.t 77)⟩])))))))
  (.seq (.reg (.mk [6] [.par 0, .par 1, .par 2, .par 3, .par 4, .par 5, .par 6, .par 7, .par 8, .par 9] [.par 3, .par 5, .par 6, .par 7, .par 9]) [⟨none, some 78, .mvS (some 2) (.t 7)⟩,
 ⟨none, some 6, .mvS (some 2) (.t 78)⟩])
  .ret))))
theorem k45 {B : Heap} {args : List V} {objs : List Ob} {r : V} {objs' news : List Ob} (h : acwp (COk Tryd.prog B) c45 (initSt args objs) (EndA (tabT tab) [.tmp 6] objs.length (mvOf args objs) [] r objs' news)) (hn : args.length ≤ Tryd.f45.ntmps := by exact Nat.le_of_ble_eq_true rfl) (hlen : objs'.length = objs.length := by rfl) : Ok B 45 args objs r objs' news :=
 callMB tabOk mixed Tryd.func45 Tryd.call45 (hints [.par 3, .par 5, .par 6, .par 7, .par 9] [([0, 1, 2], [.par 0, .par 1, .par 2, .par 3, .par 4, .par 5, .par 6, .par 7, .par 8, .par 9]), ([], []), ([0, 1, 2, 7], [.par 0, .par 1, .par 2, .par 3, .par 4, .par 5, .par 6, .par 7, .par 8, .par 9]), ([], []), ([0, 1, 2, 7, 14], [.par 0, .par 1, .par 2, .par 3, .par 4, .par 5, .par 6, .par 7, .par 8, .par 9]), ([0, 1, 2, 7], [.par 0, .par 1, .par 2, .par 3, .par 4, .par 5, .par 6, .par 7, .par 8, .par 9]), ([0, 1, 2, 7, 8], [.par 0, .par 1, .par 2, .par 3, .par 4, .par 5, .par 6, .par 7, .par 8, .par 9, .loc 8]), ([], []), ([0, 1, 2, 7, 8, 27], [.par 0, .par 1, .par 2, .par 3, .par 4, .par 5, .par 6, .par 7, .par 8, .par 9, .loc 8]), ([], []), ([0, 2, 7, 8], [.par 0, .par 1, .par 2, .par 3, .par 4, .par 5, .par 6, .par 7, .par 8, .par 9, .loc 8]), ([], []), ([0, 2, 7, 8, 9, 10], [.par 0, .par 1, .par 2, .par 3, .par 4, .par 5, .par 6, .par 7, .par 8, .par 9, .loc 8]), ([], []), ([0, 2, 7, 8, 9, 10, 59, 60], [.par 0, .par 1, .par 2, .par 3, .par 4, .par 5, .par 6, .par 7, .par 8, .par 9, .loc 8]), ([], []), ([0, 2, 7, 8, 9, 10, 59, 60, 61], [.par 0, .par 1, .par 2, .par 3, .par 4, .par 5, .par 6, .par 7, .par 8, .par 9, .loc 8]), ([0, 2, 7, 8, 9, 10, 59, 60], [.par 0, .par 1, .par 2, .par 3, .par 4, .par 5, .par 6, .par 7, .par 8, .par 9, .loc 8]), ([0, 2, 7, 8, 9, 10, 11, 59, 60], [.par 0, .par 1, .par 2, .par 3, .par 4, .par 5, .par 6, .par 7, .par 8, .par 9, .loc 8]), ([], []), ([0, 2, 7, 8, 9, 10, 59, 60], [.par 0, .par 1, .par 2, .par 3, .par 4, .par 5, .par 6, .par 7, .par 8, .par 9, .loc 8]), ([], []), ([0, 2, 7, 8, 9, 10, 59, 60], [.par 0, .par 1, .par 2, .par 3, .par 4, .par 5, .par 6, .par 7, .par 8, .par 9, .loc 8]), ([], []), ([0, 1, 2, 7], [.par 0, .par 1, .par 2, .par 3, .par 4, .par 5, .par 6, .par 7, .par 8, .par 9]), ([], []), ([6], [.par 0, .par 1, .par 2, .par 3, .par 4, .par 5, .par 6, .par 7, .par 8, .par 9]), ([], [])]) ⟨[6], [], [], []⟩ (by kernel_rfl) rfl rfl (by decide) hn hlen h
def c47 : AC :=
 (.seq (.reg (.mk [0, 1] [.par 0, .par 1, .par 2, .par 3, .par 4, .par 5, .par 6] [.par 2, .par 3, .par 4, .par 6]) [⟨none, some 4, .mvS none (.v (.str []))⟩])
 (.seq (.reg (.mk [0, 1, 5] [.par 0, .par 1, .par 2, .par 3, .par 4, .par 5, .par 6, .loc 5] [.par 2, .par 3, .par 4, .par 6]) [⟨none, some 9, .mv none (.t 0)⟩,
 ⟨none, some 10, .nilc (.t 9)⟩,
 ⟨none, some 11, .fa 0 (.t 10)⟩,
 ⟨none, some 12, .load none false (.t 11)⟩,
 ⟨none, some 13, .mv none (.t 1)⟩,
 ⟨none, some 14, .ia (some 2) none (.t 12) (.t 13)⟩,
 ⟨none, some 15, .load (some 2) false (.t 14)⟩,
 ⟨none, some 5, .alloc [(.str []), (.own 1 [])]⟩,
 ⟨none, none, .store 2 none (.t 5) (.t 15)⟩])
  (.seq (.seq (.reg (.mk [0, 1, 5, 19] [.par 0, .par 1, .par 2, .par 3, .par 4, .par 5, .par 6, .loc 5] [.par 2, .par 3, .par 4, .par 6]) [⟨none, some 16, .fa 1 (.t 5)⟩,
 ⟨none, some 17, .load none false (.t 16)⟩,
 ⟨none, some 18, .lenSl (.t 17)⟩,
 ⟨none, some 19, .bin [] .eql (.t 18) (.v (.int .i64 0))⟩])
  (.cond (.t 19) (.seq (.reg (.mk [4] [.par 0, .par 1, .par 2, .par 3, .par 4, .par 5, .par 6] [.par 2, .par 3, .par 4, .par 6]) [⟨none, some 20, .fa 0 (.t 5)⟩,
 ⟨none, some 21, .load none false (.t 20)⟩,
 ⟨none, some 22, .call [none, (some 1)] none 0 36 [.t 21, .v .nils]⟩,
 ⟨none, some 23, .bin [] .add (.t 22) (.v (.str [33]))⟩,
 ⟨none, some 24, .mv none (.t 1)⟩,
 ⟨none, some 25, .call [none] none 0 46 [.t 24]⟩,
 ⟨none, some 26, .bin [] .add (.t 23) (.t 25)⟩,
 ⟨none, some 4, .mvS none (.t 26)⟩])
  .ret) .skip))
  (.seq (.reg (.mk [0, 5, 6] [.par 0, .par 1, .par 2, .par 3, .par 4, .par 5, .par 6, .loc 5, .loc 30] [.par 2, .par 3, .par 4, .par 6]) [⟨none, some 27, .fa 1 (.t 5)⟩,
 ⟨none, some 28, .load none false (.t 27)⟩,
 ⟨none, some 29, .lenSl (.t 28)⟩,
 ⟨none, some 30, .mkSl 8 [.int .i64 0] (.t 29) (.t 29)⟩,
 ⟨none, some 6, .mvS (some 1) (.t 30)⟩])
  (.seq (.seq (.reg (.mk [0, 5, 6, 32, 33, 34] [.par 0, .par 1, .par 2, .par 3, .par 4, .par 5, .par 6, .loc 5, .loc 30] [.par 2, .par 3, .par 4, .par 6]) [⟨none, some 31, .fa 1 (.t 5)⟩,
 ⟨none, some 32, .load none false (.t 31)⟩,
 ⟨none, some 33, .lenSl (.t 32)⟩,
 ⟨none, some 34, .mv none (.v (.int .i64 0))⟩])
  (.block 0 (.loop (.mk [0, 5, 6, 32, 33, 34] [.par 0, .par 1, .par 2, .par 3, .par 4, .par 5, .par 6, .loc 5, .loc 30] [.par 2, .par 3, .par 4, .par 6]) (.seq (.reg (.mk [0, 5, 6, 32, 33, 34, 35] [.par 0, .par 1, .par 2, .par 3, .par 4, .par 5, .par 6, .loc 5, .loc 30] [.par 2, .par 3, .par 4, .par 6]) [⟨none, some 35, .bin [] .lss (.t 34) (.t 33)⟩])
  (.seq (.cond (.t 35) .skip (.exit 0))
  (.seq (.block 1 (.seq (.reg (.mk [0, 5, 6, 7, 8, 32, 33, 34] [.par 0, .par 1, .par 2, .par 3, .par 4, .par 5, .par 6, .loc 5, .loc 30] [.par 2, .par 3, .par 4, .par 6]) [⟨none, some 36, .mv none (.t 34)⟩,
 ⟨none, some 37, .ia (some 1) none (.t 32) (.t 34)⟩,
 ⟨none, some 38, .load none false (.t 37)⟩,
 ⟨none, some 7, .mvS none (.t 36)⟩,
 ⟨none, some 8, .mvS none (.t 38)⟩])
  (.reg (.mk [0, 5, 6, 32, 33, 34] [.par 0, .par 1, .par 2, .par 3, .par 4, .par 5, .par 6, .loc 5, .loc 30] [.par 2, .par 3, .par 4, .par 6]) [⟨none, some 39, .mv (some 1) (.t 6)⟩,
 ⟨none, some 40, .mv none (.t 7)⟩,
 ⟨none, some 41, .mv none (.t 0)⟩,
 ⟨none, some 42, .mv none (.t 8)⟩,
 ⟨none, some 43, .call [none, none] none 0 31 [.t 41, .t 42]⟩,
 ⟨none, some 44, .ia (some 1) none (.t 39) (.t 40)⟩,
 ⟨none, none, .store 1 none (.t 44) (.t 43)⟩])))
  (.reg (.mk [0, 5, 6, 32, 33, 34] [.par 0, .par 1, .par 2, .par 3, .par 4, .par 5, .par 6, .loc 5, .loc 30] [.par 2, .par 3, .par 4, .par 6]) [⟨none, some 45, .bin [] .add (.t 34) (.v (.int .i64 1))⟩,
 ⟨none, some 34, .mv none (.t 45)⟩])))))))
  (.seq (.reg (.mk [4] [.par 0, .par 1, .par 2, .par 3, .par 4, .par 5, .par 6] [.par 2, .par 3, .par 4, .par 6]) [⟨none, some 46, .fa 0 (.t 5)⟩,
 ⟨none, some 47, .load none false (.t 46)⟩,
 ⟨none, some 48, .mv (some 1) (.t 6)⟩,
 ⟨none, some 49, .call [none, (some 1)] none 0 36 [.t 47, .t 48]⟩,
 ⟨none, some 4, .mvS none (.t 49)⟩])
  .ret))))))
theorem k47 {B : Heap} {args : List V} {objs : List Ob} {r : V} {objs' news : List Ob} (h : acwp (COk Tryd.prog B) c47 (initSt args objs) (EndA (tabT tab) [.tmp 4] objs.length (mvOf args objs) [] r objs' news)) (hn : args.length ≤ Tryd.f47.ntmps := by exact Nat.le_of_ble_eq_true rfl) (hlen : objs'.length = objs.length := by rfl) : Ok B 47 args objs r objs' news :=
 callMB tabOk mixed Tryd.func47 Tryd.call47 (hints [.par 2, .par 3, .par 4, .par 6] [([0, 1], qC0), ([], []), ([0, 1, 5], [.par 0, .par 1, .par 2, .par 3, .par 4, .par 5, .par 6, .loc 5]), ([], []), ([0, 1, 5, 19], [.par 0, .par 1, .par 2, .par 3, .par 4, .par 5, .par 6, .loc 5]), ([], []), ([4], qC0), ([], []), ([0, 5, 6], [.par 0, .par 1, .par 2, .par 3, .par 4, .par 5, .par 6, .loc 5, .loc 30]), ([], []), ([0, 5, 6, 32, 33, 34], [.par 0, .par 1, .par 2, .par 3, .par 4, .par 5, .par 6, .loc 5, .loc 30]), ([], []), ([0, 5, 6, 32, 33, 34, 35], [.par 0, .par 1, .par 2, .par 3, .par 4, .par 5, .par 6, .loc 5, .loc 30]), ([0, 5, 6, 32, 33, 34], [.par 0, .par 1, .par 2, .par 3, .par 4, .par 5, .par 6, .loc 5, .loc 30]), ([0, 5, 6, 7, 8, 32, 33, 34], [.par 0, .par 1, .par 2, .par 3, .par 4, .par 5, .par 6, .loc 5, .loc 30]), ([], []), ([0, 5, 6, 32, 33, 34], [.par 0, .par 1, .par 2, .par 3, .par 4, .par 5, .par 6, .loc 5, .loc 30]), ([], []), ([0, 5, 6, 32, 33, 34], [.par 0, .par 1, .par 2, .par 3, .par 4, .par 5, .par 6, .loc 5, .loc 30]), ([], []), ([4], qC0), ([], [])]) ⟨[4], [], [], []⟩ (by kernel_rfl) rfl rfl (by decide) hn hlen h
def c48 : AC :=
 (.seq (.reg (.mk [0, 1, 4] [.par 0, .par 1, .par 2, .par 3, .par 4, .par 5, .par 6, .loc 4] [.par 2, .par 3, .par 4, .par 6]) [⟨none, some 4, .alloc [.int .i64 0, .int .i64 0, .bool false]⟩])
 (.block 0 (.loop (.mk [0, 1, 4] [.par 0, .par 1, .par 2, .par 3, .par 4, .par 5, .par 6, .loc 4] [.par 2, .par 3, .par 4, .par 6]) (.block 1 (.seq (.reg (.mk [0, 1, 4, 5] [.par 0, .par 1, .par 2, .par 3, .par 4, .par 5, .par 6, .loc 4, .loc 5] [.par 2, .par 3, .par 4, .par 6]) [⟨none, some 6, .mv none (.t 0)⟩,
 ⟨none, some 7, .nilc (.t 6)⟩,
 ⟨none, some 8, .fa 7 (.t 7)⟩,
 ⟨none, some 9, .load none false (.t 8)⟩,
 ⟨none, some 10, .mv none (.t 1)⟩,
 ⟨none, some 11, .ia (some 3) none (.t 9) (.t 10)⟩,
 ⟨none, some 12, .load (some 3) false (.t 11)⟩,
 ⟨none, some 5, .alloc [.int .i64 0, .int .i64 0, .bool false]⟩,
 ⟨none, none, .store 3 none (.t 5) (.t 12)⟩])
  (.seq (.regD (.mk [0, 1, 4, 5] [.par 0, .par 1, .par 2, .par 3, .par 4, .par 5, .par 6, .loc 4, .loc 5] [.par 2, .par 3, .par 4, .par 6]) [(0, 4), (1, 4), (2, 4), (3, 4), (0, 5), (1, 5), (2, 5), (4, 5)] [⟨none, some 13, .mv none (.t 0)⟩,
 ⟨none, some 14, .nilc (.t 13)⟩,
 ⟨none, some 15, .fa 7 (.t 14)⟩,
 ⟨none, some 16, .load none false (.t 15)⟩,
 ⟨none, some 17, .mv none (.t 1)⟩,
 ⟨none, some 18, .load (some 3) false (.t 4)⟩,
 ⟨none, some 19, .ia (some 3) none (.t 16) (.t 17)⟩,
 ⟨none, none, .store 3 none (.t 19) (.t 18)⟩])
  (.seq (.seq (.reg (.mk [0, 1, 4, 5, 22] [.par 0, .par 1, .par 2, .par 3, .par 4, .par 5, .par 6, .loc 4, .loc 5] [.par 2, .par 3, .par 4, .par 6]) [⟨none, some 20, .fa 2 (.t 5)⟩,
 ⟨none, some 21, .load none false (.t 20)⟩,
 ⟨none, some 22, .un .not (.t 21)⟩])
  (.cond (.t 22) .ret .skip))
  (.seq (.reg (.mk [0, 4, 5] [.par 0, .par 1, .par 2, .par 3, .par 4, .par 5, .par 6, .loc 4, .loc 5] [.par 2, .par 3, .par 4, .par 6]) [⟨none, some 23, .mv none (.t 1)⟩,
 ⟨none, some 24, .fa 1 (.t 5)⟩,
 ⟨none, some 25, .load none false (.t 24)⟩,
 ⟨none, some 26, .build [(0, 1), (1, 1), (2, 1)] [.int .i64 0, .int .i64 0, .bool false] [0, 1, 2] [.t 23, .t 25, (.v (.bool true))]⟩,
 ⟨none, none, .store 3 none (.t 4) (.t 26)⟩])
  (.reg (.mk [0, 1, 4] [.par 0, .par 1, .par 2, .par 3, .par 4, .par 5, .par 6, .loc 4] [.par 2, .par 3, .par 4, .par 6]) [⟨none, some 27, .fa 0 (.t 5)⟩,
 ⟨none, some 28, .load none false (.t 27)⟩,
 ⟨none, some 1, .mvS none (.t 28)⟩])))))))))
theorem k48 {B : Heap} {args : List V} {objs : List Ob} {r : V} {objs' news : List Ob} (h : acwp (COk Tryd.prog B) c48 (initSt args objs) (EndA (tabT tab) [] objs.length (mvOf args objs) [] r objs' news)) (hn : args.length ≤ Tryd.f48.ntmps := by exact Nat.le_of_ble_eq_true rfl) (hlen : objs'.length = objs.length := by rfl) : Ok B 48 args objs r objs' news :=
 callMB tabOk mixed Tryd.func48 Tryd.call48 (hints [.par 2, .par 3, .par 4, .par 6] [([0, 1, 4], [.par 0, .par 1, .par 2, .par 3, .par 4, .par 5, .par 6, .loc 4]), ([], []), ([0, 1, 4, 5], [.par 0, .par 1, .par 2, .par 3, .par 4, .par 5, .par 6, .loc 4, .loc 5]), ([0, 1, 4], [.par 0, .par 1, .par 2, .par 3, .par 4, .par 5, .par 6, .loc 4]), ([0, 1, 4, 5], [.par 0, .par 1, .par 2, .par 3, .par 4, .par 5, .par 6, .loc 4, .loc 5]), ([], []), ([0, 1, 4, 5, 22], [.par 0, .par 1, .par 2, .par 3, .par 4, .par 5, .par 6, .loc 4, .loc 5]), ([], []), ([0, 4, 5], [.par 0, .par 1, .par 2, .par 3, .par 4, .par 5, .par 6, .loc 4, .loc 5]), ([], []), ([0, 1, 4], [.par 0, .par 1, .par 2, .par 3, .par 4, .par 5, .par 6, .loc 4]), ([], [])]) ⟨[], [], [], []⟩ (by kernel_rfl) rfl rfl (by decide) hn hlen h
def c49 : AC :=
 (.seq (.reg (.mk [0, 1, 2] [.par 0, .par 1, .par 2, .par 3, .par 4, .par 5, .par 6] [.par 2, .par 3, .par 4, .par 6]) [⟨none, some 6, .mvS (some 3) (.v .nils)⟩])
 (.seq (.reg (.mk [0, 1, 2, 7] [.par 0, .par 1, .par 2, .par 3, .par 4, .par 5, .par 6] [.par 2, .par 3, .par 4, .par 6]) [⟨none, some 7, .mvS (some 3) (.v .nils)⟩])
 (.seq (.seq (.reg (.mk [0, 1, 2, 7, 19, 20, 21] [.par 0, .par 1, .par 2, .par 3, .par 4, .par 5, .par 6] [.par 2, .par 3, .par 4, .par 6]) [⟨none, some 13, .mv none (.t 0)⟩,
 ⟨none, some 14, .nilc (.t 13)⟩,
 ⟨none, some 15, .fa 5 (.t 14)⟩,
 ⟨none, some 16, .load none false (.t 15)⟩,
 ⟨none, some 17, .mv none (.t 1)⟩,
 ⟨none, some 18, .ia (some 1) none (.t 16) (.t 17)⟩,
 ⟨none, some 19, .load none false (.t 18)⟩,
 ⟨none, some 20, .lenSl (.t 19)⟩,
 ⟨none, some 21, .mv none (.v (.int .i64 0))⟩])
  (.block 0 (.loop (.mk [0, 1, 2, 7, 19, 20, 21] [.par 0, .par 1, .par 2, .par 3, .par 4, .par 5, .par 6] [.par 2, .par 3, .par 4, .par 6]) (.seq (.reg (.mk [0, 1, 2, 7, 19, 20, 21, 22] [.par 0, .par 1, .par 2, .par 3, .par 4, .par 5, .par 6] [.par 2, .par 3, .par 4, .par 6]) [⟨none, some 22, .bin [] .lss (.t 21) (.t 20)⟩])
  (.seq (.cond (.t 22) .skip (.exit 0))
  (.seq (.block 1 (.seq (.reg (.mk [0, 1, 2, 7, 9, 19, 20, 21] [.par 0, .par 1, .par 2, .par 3, .par 4, .par 5, .par 6] [.par 2, .par 3, .par 4, .par 6]) [⟨none, some 23, .ia (some 1) none (.t 19) (.t 21)⟩,
 ⟨none, some 24, .load none false (.t 23)⟩,
 ⟨none, some 9, .mvS none (.t 24)⟩])
  (.seq (.reg (.mk [0, 1, 2, 7, 9, 10, 19, 20, 21] [.par 0, .par 1, .par 2, .par 3, .par 4, .par 5, .par 6] [.par 2, .par 3, .par 4, .par 6]) [⟨none, some 25, .mv none (.t 0)⟩,
 ⟨none, some 26, .mv none (.t 9)⟩,
 ⟨none, some 27, .call [none, none] none 0 47 [.t 25, .t 26]⟩,
 ⟨none, some 10, .mvS none (.t 27)⟩])
  (.seq (.reg (.mk [0, 1, 2, 7, 9, 10, 11, 12, 19, 20, 21] [.par 0, .par 1, .par 2, .par 3, .par 4, .par 5, .par 6] [.par 2, .par 3, .par 4, .par 6]) [⟨none, some 29, .mv none (.t 0)⟩,
 ⟨none, some 30, .nilc (.t 29)⟩,
 ⟨none, some 31, .fa 6 (.t 30)⟩,
 ⟨none, some 32, .load none false (.t 31)⟩,
 ⟨none, some 33, .mv none (.t 10)⟩,
 ⟨none, some 34, .mlook 4 (.int .i64 0) true (.t 32) (.t 33)⟩,
 ⟨none, some 28, .mv none (.t 34)⟩,
 ⟨none, some 35, .ext (.t 28) 0⟩,
 ⟨none, some 36, .ext (.t 28) 1⟩,
 ⟨none, some 11, .mvS none (.t 35)⟩,
 ⟨none, some 12, .mvS none (.t 36)⟩])
  (.seq (.reg (.mk [0, 1, 2, 7, 9, 10, 11, 19, 20, 21, 42] [.par 0, .par 1, .par 2, .par 3, .par 4, .par 5, .par 6] [.par 2, .par 3, .par 4, .par 6]) [⟨none, some 37, .mv none (.t 12)⟩,
 ⟨none, some 38, .mv none (.t 37)⟩,
 ⟨some (38, true), some 39, .mv none (.t 11)⟩,
 ⟨some (38, true), some 40, .mv none (.t 9)⟩,
 ⟨some (38, true), some 41, .bin [] .neq (.t 39) (.t 40)⟩,
 ⟨none, some 42, .pick (.t 38) (.t 41) (.v (.bool false))⟩])
  (.cond (.t 42) (.seq (.reg (.mk [0, 1, 2, 7, 9, 11, 19, 20, 21, 49] [.par 0, .par 1, .par 2, .par 3, .par 4, .par 5, .par 6] [.par 2, .par 3, .par 4, .par 6]) [⟨none, some 43, .mv none (.t 0)⟩,
 ⟨none, some 44, .mv none (.t 11)⟩,
 ⟨none, some 45, .call [none, none] none 0 31 [.t 43, .t 44]⟩,
 ⟨none, some 46, .mv none (.t 0)⟩,
 ⟨none, some 47, .mv none (.t 9)⟩,
 ⟨none, some 48, .call [none, none] none 0 31 [.t 46, .t 47]⟩,
 ⟨none, some 49, .bin [] .neq (.t 45) (.t 48)⟩])
  (.cond (.t 49) (.reg (.mk [0, 1, 2, 7, 19, 20, 21] [.par 0, .par 1, .par 2, .par 3, .par 4, .par 5, .par 6] [.par 2, .par 3, .par 4, .par 6]) [⟨none, some 50, .mvS (some 3) (.t 7)⟩,
 ⟨none, some 51, .mv none (.t 9)⟩,
 ⟨none, some 52, .mv none (.t 11)⟩,
 ⟨none, some 53, .build [(0, 1), (1, 1), (2, 1)] [.int .i64 0, .int .i64 0, .int .i64 0] [0, 1, 2] [.t 51, .t 52, (.v (.int .i64 (-1)))]⟩,
 ⟨none, some 54, .buildSl 3 [.t 53]⟩,
 ⟨none, some 55, .app 3 24 (.t 50) (.t 54)⟩,
 ⟨none, some 7, (.mvS (some 3) (.t 55))⟩]) .skip)) (.reg (.mk [0, 1, 2, 7, 19, 20, 21] [.par 0, .par 1, .par 2, .par 3, .par 4, .par 5, .par 6] [.par 2, .par 3, .par 4, .par 6]) [⟨none, (some 56), (.mv none (.t 0))⟩,
 ⟨none, some 57, .nilc (.t 56)⟩,
 ⟨none, some 58, .fa 6 (.t 57)⟩,
 ⟨none, some 59, .load none false (.t 58)⟩,
 ⟨none, some 60, .mv none (.t 10)⟩,
 ⟨none, some 61, .mv none (.t 9)⟩,
 ⟨none, none, .mput 4 (.t 59) (.t 60) (.t 61)⟩])))))))
  (.reg (.mk [0, 1, 2, 7, 19, 20, 21] [.par 0, .par 1, .par 2, .par 3, .par 4, .par 5, .par 6] [.par 2, .par 3, .par 4, .par 6]) [⟨none, some 62, .bin [] .add (.t 21) (.v (.int .i64 1))⟩,
 ⟨none, some 21, .mv none (.t 62)⟩])))))))
  (.seq (.regD (.mk [0, 1, 7] [.par 0, .par 1, .par 2, .par 3, .par 4, .par 5, .par 6] [.par 2, .par 3, .par 4, .par 6]) [(0, 4), (1, 4), (2, 4), (3, 4), (0, 5), (1, 5), (2, 5), (3, 5), (4, 5), (0, 6), (1, 6), (2, 6), (3, 6), (4, 6), (0, 7), (1, 7), (2, 7), (3, 7), (4, 7), (0, 8), (1, 8), (2, 8), (4, 8), (0, 9), (1, 9), (2, 9), (3, 9), (4, 9), (5, 9), (6, 9), (7, 9), (8, 9), (0, 10), (1, 10), (2, 10), (3, 10), (4, 10), (0, 11), (1, 11), (2, 11), (4, 11), (0, 12), (1, 12), (2, 12), (3, 12), (4, 12), (5, 12), (6, 12), (7, 12), (8, 12), (9, 12), (10, 12), (11, 12), (0, 13), (1, 13), (2, 13), (3, 13), (4, 13), (5, 13), (6, 13), (7, 13), (8, 13), (9, 13), (10, 13), (11, 13), (0, 14), (1, 14), (2, 14), (3, 14), (4, 14), (5, 14), (6, 14), (7, 14), (8, 14), (9, 14), (10, 14), (11, 14), (0, 15), (1, 15), (2, 15), (4, 15), (5, 15), (6, 15), (7, 15), (9, 15), (10, 15), (0, 16), (1, 16), (2, 16), (3, 16), (4, 16), (5, 16), (6, 16), (7, 16), (8, 16), (9, 16), (10, 16), (11, 16), (12, 16), (13, 16), (14, 16), (15, 16), (0, 17), (1, 17), (2, 17), (3, 17), (4, 17), (5, 17), (6, 17), (7, 17), (8, 17), (9, 17), (10, 17), (11, 17), (0, 18), (1, 18), (2, 18), (4, 18), (5, 18), (6, 18), (7, 18), (9, 18), (10, 18), (0, 19), (1, 19), (2, 19), (3, 19), (4, 19)] [⟨none, some 63, .mv none (.t 0)⟩,
 ⟨none, some 64, .nilc (.t 63)⟩,
 ⟨none, some 65, .fa 5 (.t 64)⟩,
 ⟨none, some 66, .load none false (.t 65)⟩,
 ⟨none, some 67, .mv none (.t 2)⟩,
 ⟨none, some 68, .mv none (.t 0)⟩,
 ⟨none, some 69, .nilc (.t 68)⟩,
 ⟨none, some 70, .fa 5 (.t 69)⟩,
 ⟨none, some 71, .load none false (.t 70)⟩,
 ⟨none, some 72, .mv none (.t 2)⟩,
 ⟨none, some 73, .ia (some 1) none (.t 71) (.t 72)⟩,
 ⟨none, some 74, .load none true (.t 73)⟩,
 ⟨none, some 75, .mv none (.t 0)⟩,
 ⟨none, some 76, .nilc (.t 75)⟩,
 ⟨none, some 77, .fa 5 (.t 76)⟩,
 ⟨none, some 78, .load none false (.t 77)⟩,
 ⟨none, some 79, .mv none (.t 1)⟩,
 ⟨none, some 80, .ia (some 1) none (.t 78) (.t 79)⟩,
 ⟨none, some 81, .load none false (.t 80)⟩,
 ⟨none, some 82, .app 1 8 (.t 74) (.t 81)⟩,
 ⟨none, some 83, .ia (some 1) none (.t 66) (.t 67)⟩,
 ⟨none, none, .store 1 (some 1) (.t 83) (.t 82)⟩])
  (.seq (.reg (.mk [7] [.par 0, .par 1, .par 2, .par 3, .par 4, .par 5, .par 6] [.par 2, .par 3, .par 4, .par 6]) [⟨none, some 84, .mv none (.t 0)⟩,
 ⟨none, some 85, .nilc (.t 84)⟩,
 ⟨none, some 86, .fa 5 (.t 85)⟩,
 ⟨none, some 87, .load none false (.t 86)⟩,
 ⟨none, some 88, .mv none (.t 1)⟩,
 ⟨none, some 89, .ia (some 1) none (.t 87) (.t 88)⟩,
 ⟨none, none, .store 1 (some 1) (.t 89) (.v .nils)⟩])
  (.seq (.reg (.mk [6] [.par 0, .par 1, .par 2, .par 3, .par 4, .par 5, .par 6] [.par 2, .par 3, .par 4, .par 6]) [⟨none, some 90, .mvS (some 3) (.t 7)⟩,
 ⟨none, some 6, .mvS (some 3) (.t 90)⟩])
  .ret))))))
theorem k49 {B : Heap} {args : List V} {objs : List Ob} {r : V} {objs' news : List Ob} (h : acwp (COk Tryd.prog B) c49 (initSt args objs) (EndA (tabT tab) [.tmp 6] objs.length (mvOf args objs) [] r objs' news)) (hn : args.length ≤ Tryd.f49.ntmps := by exact Nat.le_of_ble_eq_true rfl) (hlen : objs'.length = objs.length := by rfl) : Ok B 49 args objs r objs' news :=
 callMB tabOk mixed Tryd.func49 Tryd.call49 (hints [.par 2, .par 3, .par 4, .par 6] [([0, 1, 2], qC0), ([], []), ([0, 1, 2, 7], qC0), ([], []), ([0, 1, 2, 7, 19, 20, 21], qC0), ([], []), ([0, 1, 2, 7, 19, 20, 21, 22], qC0), ([0, 1, 2, 7, 19, 20, 21], qC0), ([0, 1, 2, 7, 9, 19, 20, 21], qC0), ([], []), ([0, 1, 2, 7, 9, 10, 19, 20, 21], qC0), ([], []), ([0, 1, 2, 7, 9, 10, 11, 12, 19, 20, 21], qC0), ([], []), ([0, 1, 2, 7, 9, 10, 11, 19, 20, 21, 42], qC0), ([], []), ([0, 1, 2, 7, 9, 11, 19, 20, 21, 49], qC0), ([], []), ([0, 1, 2, 7, 19, 20, 21], qC0), ([], []), ([0, 1, 2, 7, 19, 20, 21], qC0), ([], []), ([0, 1, 2, 7, 19, 20, 21], qC0), ([], []), ([0, 1, 7], qC0), ([], []), ([7], qC0), ([], []), ([6], qC0), ([], [])]) ⟨[6], [], [], []⟩ (by kernel_rfl) rfl rfl (by decide) hn hlen h
end Go.Proofs.YtjabgfnljbnmmaaDoor
