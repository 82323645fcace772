/- A part of the proof of a law of this seat: no condition. -/
import Derived.Test.YtcdoebbffjejeaaGreatDoorT1s
import Derived.Test.YtcdoebbffjejeaaGreatDoorA8
namespace Go.Proofs.YtcdoebbffjejeaaGreatDoor
open Go.Ax
def c89 : AC :=
  (.seq (.reg (.mk [2, 3, 4, 5] [(.par 0), (.loc 2), (.loc 3), (.loc 4), (.loc 5)] []) [⟨none, some 2, .box 6 [(.own 9 []), (.str []), (.own 8 []), (.bool false), (.own 6 []), .nilp] (.t 0)⟩,
 ⟨none, some 3, .box 7 [(.str []), (.str []), (.own 6 []), (.own 5 []), (.own 7 []), (.own 7 []), (.int .i64 0)] (.t 1)⟩,
 ⟨none, some 4, .alloc [(.str []), (.str []), (.own 6 []), (.own 5 []), (.own 7 []), (.own 7 []), (.int .i64 0)]⟩,
 ⟨none, some 5, .alloc [(.own 9 []), (.str []), (.own 8 []), (.bool false), (.own 6 []), .nilp]⟩])
  (.seq (.seq (.reg (.mk [2, 3, 4, 5, 15] [(.par 0), (.loc 2), (.loc 3), (.loc 4), (.loc 5)] []) [⟨none, some 14, .fa 0 (.t 3)⟩,
 ⟨none, some 15, .load none false (.t 14)⟩])
  (.block 0 (.seq (.reg (.mk [2, 3, 4, 5, 15, 24] [(.par 0), (.loc 2), (.loc 3), (.loc 4), (.loc 5)] []) [⟨none, some 25, .bin [] .eql (.t 15) (.v (.str [108, 101, 116]))⟩,
 ⟨none, some 24, .mvS none (.t 25)⟩])
  (.cond (.t 24) (.seq (.reg (.mk [4, 5] [(.par 0), (.loc 4), (.loc 5)] []) [⟨none, some 26, .load (some 6) false (.t 2)⟩,
 ⟨none, some 27, .load (some 7) false (.t 3)⟩,
 ⟨none, some 28, .call [none, none] none 0 122 [(.t 26), (.t 27)]⟩,
 ⟨none, some 29, .ext (.t 28) 0⟩,
 ⟨none, some 30, .ext (.t 28) 1⟩,
 ⟨none, none, .store 7 none (.t 4) (.t 29)⟩,
 ⟨none, none, .store 6 none (.t 5) (.t 30)⟩])
  .ret) (.seq (.reg (.mk [2, 3, 4, 5, 15, 31] [(.par 0), (.loc 2), (.loc 3), (.loc 4), (.loc 5)] []) [⟨none, some 32, .bin [] .eql (.t 15) (.v (.str [115, 101, 116]))⟩,
 ⟨none, some 31, .mvS none (.t 32)⟩])
  (.cond (.t 31) (.seq (.reg (.mk [2, 3, 4, 5, 6] [(.par 0), (.loc 2), (.loc 3), (.loc 4), (.loc 5)] []) [⟨none, some 33, .load (some 6) false (.t 2)⟩,
 ⟨none, some 34, .fa 1 (.t 3)⟩,
 ⟨none, some 35, .load none false (.t 34)⟩,
 ⟨none, some 36, .call [none, none] none 0 123 [(.t 33), (.t 35)]⟩,
 ⟨none, some 6, .mvS none (.t 36)⟩])
  (.seq (.seq (.reg (.mk [2, 3, 4, 5, 6, 38] [(.par 0), (.loc 2), (.loc 3), (.loc 4), (.loc 5)] []) [⟨none, some 37, .mv none (.t 6)⟩,
 ⟨none, some 38, .bin [] .lss (.t 37) (.v (.int .i64 0))⟩])
  (.cond (.t 38) (.seq (.reg (.mk [2, 3, 4, 5] [(.par 0), (.loc 2), (.loc 3), (.loc 4), (.loc 5)] []) [⟨none, some 39, .load (some 6) false (.t 2)⟩,
 ⟨none, some 40, .fa 6 (.t 3)⟩,
 ⟨none, some 41, .load none false (.t 40)⟩,
 ⟨none, some 42, .call [none, none, none] none 0 85 [(.t 39), (.v (.int .i64 130)), (.t 41)]⟩])
  (.seq (.regD (.mk [4, 5] [(.par 0), (.loc 4), (.loc 5)] []) [(1, 2)] [⟨none, some 43, .load (some 7) false (.t 3)⟩,
 ⟨none, some 44, .load (some 6) false (.t 2)⟩,
 ⟨none, none, .store 7 none (.t 4) (.t 43)⟩,
 ⟨none, none, .store 6 none (.t 5) (.t 44)⟩])
  .ret)) .skip))
  (.seq (.seq (.reg (.mk [2, 3, 4, 5, 6, 50] [(.par 0), (.loc 2), (.loc 3), (.loc 4), (.loc 5)] []) [⟨none, some 45, .fa 2 (.t 2)⟩,
 ⟨none, some 46, .load none false (.t 45)⟩,
 ⟨none, some 47, .mv none (.t 6)⟩,
 ⟨none, some 48, .ia (some 8) none (.t 46) (.t 47)⟩,
 ⟨none, some 49, .fa 7 (.t 48)⟩,
 ⟨none, some 50, .load none false (.t 49)⟩])
  (.cond (.t 50) (.reg (.mk [2, 3, 4, 5, 6] [(.par 0), (.loc 2), (.loc 3), (.loc 4), (.loc 5)] []) [⟨none, some 51, .load (some 6) false (.t 2)⟩,
 ⟨none, some 52, .fa 6 (.t 3)⟩,
 ⟨none, some 53, .load none false (.t 52)⟩,
 ⟨none, some 54, .call [none, none, none] none 0 85 [(.t 51), (.v (.int .i64 136)), (.t 53)]⟩]) .skip))
  (.regD (.mk [2, 3, 4, 5] [(.par 0), (.loc 2), (.loc 3), (.loc 4), (.loc 5)] []) [(0, 1), (0, 3), (0, 5), (1, 5), (2, 5), (3, 5), (4, 5), (1, 6), (3, 6), (0, 7), (1, 7), (2, 7), (3, 7), (4, 7), (5, 7), (6, 7), (0, 8), (1, 8), (2, 8), (3, 8), (4, 8), (0, 9), (1, 9), (2, 9), (3, 9), (4, 9), (1, 10), (3, 10)] [⟨none, some 55, .load (some 6) false (.t 2)⟩,
 ⟨none, some 56, .fa 3 (.t 3)⟩,
 ⟨none, some 57, .load none false (.t 56)⟩,
 ⟨none, some 58, .ia (some 5) none (.t 57) (.v (.int .i64 0))⟩,
 ⟨none, some 59, .load (some 5) false (.t 58)⟩,
 ⟨none, some 60, .fa 2 (.t 2)⟩,
 ⟨none, some 61, .load none false (.t 60)⟩,
 ⟨none, some 62, .mv none (.t 6)⟩,
 ⟨none, some 63, .ia (some 8) none (.t 61) (.t 62)⟩,
 ⟨none, some 64, .fa 1 (.t 63)⟩,
 ⟨none, some 65, .load (some 6) false (.t 64)⟩,
 ⟨none, some 66, .call [none, none, none] none 0 116 [(.t 55), (.t 59), (.t 65)]⟩,
 ⟨none, some 67, .buildSl 5 [(.t 66)]⟩,
 ⟨none, some 68, .fa 3 (.t 3)⟩,
 ⟨none, none, (.store 1 (some 5) (.t 68) (.t 67))⟩])))) (.seq (.reg (.mk [2, 3, 4, 5, 15, 69] [(.par 0), (.loc 2), (.loc 3), (.loc 4), (.loc 5)] []) [⟨none, (some 70), (.bin [] .eql (.t 15) (.v (.str [102, 105, 101, 108, 100])))⟩,
 ⟨none, some 69, .mvS none (.t 70)⟩])
  (.cond (.t 69) (.seq (.regD (.mk [2, 3, 4, 5, 7] [(.par 0), (.loc 2), (.loc 3), (.loc 4), (.loc 5), (.loc 7)] []) [(0, 1), (0, 3), (0, 6), (1, 6), (2, 6), (3, 6), (4, 6), (5, 6)] [⟨none, some 71, .load (some 6) false (.t 2)⟩,
 ⟨none, some 72, .fa 3 (.t 3)⟩,
 ⟨none, some 73, .load none false (.t 72)⟩,
 ⟨none, some 74, .ia (some 5) none (.t 73) (.v (.int .i64 0))⟩,
 ⟨none, some 75, .load (some 5) false (.t 74)⟩,
 ⟨none, some 76, .call [none, none] none 0 124 [(.t 71), (.t 75)]⟩,
 ⟨none, some 7, .alloc [(.str []), (.str []), (.own 5 []), (.own 6 []), (.int .i64 0)]⟩,
 ⟨none, none, .store 5 none (.t 7) (.t 76)⟩])
  (.seq (.reg (.mk [2, 3, 4, 5, 7, 8, 9] [(.par 0), (.loc 2), (.loc 3), (.loc 4), (.loc 5), (.loc 7), (.loc 8)] []) [⟨none, some 78, .load (some 6) false (.t 2)⟩,
 ⟨none, some 79, .load (some 5) false (.t 7)⟩,
 ⟨none, some 80, .fa 1 (.t 3)⟩,
 ⟨none, some 81, .load none false (.t 80)⟩,
 ⟨none, some 82, .fa 6 (.t 3)⟩,
 ⟨none, some 83, .load none false (.t 82)⟩,
 ⟨none, some 84, .call [none, none, none, none] none 0 125 [(.t 78), (.t 79), (.t 81), (.t 83)]⟩,
 ⟨none, some 77, .mv none (.t 84)⟩,
 ⟨none, some 85, .ext (.t 77) 0⟩,
 ⟨none, some 86, .ext (.t 77) 1⟩,
 ⟨none, some 8, .alloc [(.str []), (.int .i64 0), (.str []), (.bool false), (.own 6 []), (.own 5 []), (.int .i64 0), (.bool false), (.int .i64 0)]⟩,
 ⟨none, none, .store 9 none (.t 8) (.t 85)⟩,
 ⟨none, some 9, .mvS none (.t 86)⟩])
  (.seq (.seq (.reg (.mk [2, 3, 4, 5, 7, 8, 88] [(.par 0), (.loc 2), (.loc 3), (.loc 4), (.loc 5), (.loc 7), (.loc 8)] []) [⟨none, some 87, .mv none (.t 9)⟩,
 ⟨none, some 88, .un .not (.t 87)⟩])
  (.cond (.t 88) (.seq (.regD (.mk [4, 5] [(.par 0), (.loc 4), (.loc 5)] []) [(1, 2)] [⟨none, some 89, .load (some 7) false (.t 3)⟩,
 ⟨none, some 90, .load (some 6) false (.t 2)⟩,
 ⟨none, none, .store 7 none (.t 4) (.t 89)⟩,
 ⟨none, none, .store 6 none (.t 5) (.t 90)⟩])
  .ret) .skip))
  (.seq (.seq (.reg (.mk [2, 3, 4, 5, 7, 8, 92] [(.par 0), (.loc 2), (.loc 3), (.loc 4), (.loc 5), (.loc 7), (.loc 8)] []) [⟨none, some 91, .fa 7 (.t 8)⟩,
 ⟨none, some 92, .load none false (.t 91)⟩])
  (.cond (.t 92) (.reg (.mk [2, 3, 4, 5, 7, 8] [(.par 0), (.loc 2), (.loc 3), (.loc 4), (.loc 5), (.loc 7), (.loc 8)] []) [⟨none, some 93, .load (some 6) false (.t 2)⟩,
 ⟨none, some 94, .fa 6 (.t 3)⟩,
 ⟨none, some 95, .load none false (.t 94)⟩,
 ⟨none, some 96, .call [none, none, none] none 0 85 [(.t 93), (.v (.int .i64 136)), (.t 95)]⟩]) .skip))
  (.regD (.mk [2, 3, 4, 5] [(.par 0), (.loc 2), (.loc 3), (.loc 4), (.loc 5)] []) [(0, 2), (1, 2), (0, 4), (1, 4), (0, 6), (1, 6), (2, 6), (3, 6), (4, 6), (5, 6), (2, 7), (4, 7), (0, 8)] [⟨none, some 97, .load (some 5) false (.t 7)⟩,
 ⟨none, some 98, .load (some 6) false (.t 2)⟩,
 ⟨none, some 99, .fa 3 (.t 3)⟩,
 ⟨none, some 100, .load none false (.t 99)⟩,
 ⟨none, some 101, .ia (some 5) none (.t 100) (.v (.int .i64 1))⟩,
 ⟨none, some 102, .load (some 5) false (.t 101)⟩,
 ⟨none, some 103, .fa 1 (.t 8)⟩,
 ⟨none, some 104, .load (some 6) false (.t 103)⟩,
 ⟨none, some 105, .call [none, none, none] none 0 116 [(.t 98), (.t 102), (.t 104)]⟩,
 ⟨none, some 106, .buildSl 5 [(.t 97), (.t 105)]⟩,
 ⟨none, some 107, .fa 3 (.t 3)⟩,
 ⟨none, none, (.store 1 (some 5) (.t 107) (.t 106))⟩]))))) (.seq (.reg (.mk [2, 3, 4, 5, 15, 108] [(.par 0), (.loc 2), (.loc 3), (.loc 4), (.loc 5)] []) [⟨none, (some 109), (.bin [] .eql (.t 15) (.v (.str [101, 108, 101, 109])))⟩,
 ⟨none, some 108, .mvS none (.t 109)⟩])
  (.cond (.t 108) (.seq (.regD (.mk [2, 3, 4, 5, 10] [(.par 0), (.loc 2), (.loc 3), (.loc 4), (.loc 5), (.loc 10)] []) [(0, 1), (0, 3), (0, 6), (1, 6), (2, 6), (3, 6), (4, 6), (5, 6)] [⟨none, some 110, .load (some 6) false (.t 2)⟩,
 ⟨none, some 111, .fa 3 (.t 3)⟩,
 ⟨none, some 112, .load none false (.t 111)⟩,
 ⟨none, some 113, .ia (some 5) none (.t 112) (.v (.int .i64 0))⟩,
 ⟨none, some 114, .load (some 5) false (.t 113)⟩,
 ⟨none, some 115, .call [none, none] none 0 124 [(.t 110), (.t 114)]⟩,
 ⟨none, some 10, .alloc [(.str []), (.str []), (.own 5 []), (.own 6 []), (.int .i64 0)]⟩,
 ⟨none, none, .store 5 none (.t 10) (.t 115)⟩])
  (.seq (.seq (.reg (.mk [2, 3, 4, 5, 10, 119] [(.par 0), (.loc 2), (.loc 3), (.loc 4), (.loc 5), (.loc 10)] []) [⟨none, some 116, .load (some 5) false (.t 10)⟩,
 ⟨none, some 117, .call [none] none 0 126 [(.t 116)]⟩,
 ⟨none, some 118, .fld none 0 (.t 117)⟩,
 ⟨none, some 119, .bin [] .neq (.t 118) (.v (.int .i64 4))⟩])
  (.cond (.t 119) (.seq (.reg (.mk [2, 3, 4, 5] [(.par 0), (.loc 2), (.loc 3), (.loc 4), (.loc 5)] []) [⟨none, some 120, .load (some 6) false (.t 2)⟩,
 ⟨none, some 121, .fa 6 (.t 3)⟩,
 ⟨none, some 122, .load none false (.t 121)⟩,
 ⟨none, some 123, .call [none, none, none] none 0 85 [(.t 120), (.v (.int .i64 131)), (.t 122)]⟩])
  (.seq (.regD (.mk [4, 5] [(.par 0), (.loc 4), (.loc 5)] []) [(1, 2)] [⟨none, some 124, .load (some 7) false (.t 3)⟩,
 ⟨none, some 125, .load (some 6) false (.t 2)⟩,
 ⟨none, none, .store 7 none (.t 4) (.t 124)⟩,
 ⟨none, none, .store 6 none (.t 5) (.t 125)⟩])
  .ret)) .skip))
  (.seq (.regD (.mk [2, 3, 4, 5, 10, 11] [(.par 0), (.loc 2), (.loc 3), (.loc 4), (.loc 5), (.loc 10), (.loc 11)] []) [(0, 1), (0, 3), (0, 5), (1, 5), (2, 5), (3, 5), (4, 5), (0, 7), (1, 7), (2, 7), (3, 7), (4, 7), (5, 7), (6, 7)] [⟨none, some 126, .load (some 6) false (.t 2)⟩,
 ⟨none, some 127, .fa 3 (.t 3)⟩,
 ⟨none, some 128, .load none false (.t 127)⟩,
 ⟨none, some 129, .ia (some 5) none (.t 128) (.v (.int .i64 1))⟩,
 ⟨none, some 130, .load (some 5) false (.t 129)⟩,
 ⟨none, some 131, .build [(0, 1), (1, 1), (2, 1), (3, 1), (4, 1), (5, 1)] [(.int .i64 0), (.str []), (.bool false), (.own 6 []), (.own 5 []), (.int .i64 0)] [0] [(.v (.int .i64 1))]⟩,
 ⟨none, some 132, .call [none, none, none] none 0 116 [(.t 126), (.t 130), (.t 131)]⟩,
 ⟨none, some 11, .alloc [(.str []), (.str []), (.own 5 []), (.own 6 []), (.int .i64 0)]⟩,
 ⟨none, none, .store 5 none (.t 11) (.t 132)⟩])
  (.regD (.mk [2, 3, 4, 5] [(.par 0), (.loc 2), (.loc 3), (.loc 4), (.loc 5)] []) [(0, 3), (1, 3), (2, 3), (0, 5), (1, 5), (2, 5), (3, 7), (5, 7), (0, 8), (1, 8), (2, 8), (3, 8), (4, 8), (5, 8), (6, 8), (0, 9), (1, 9), (2, 9), (3, 9), (4, 9), (5, 9), (6, 9), (0, 10), (1, 10), (2, 10), (3, 10), (4, 10), (5, 10), (6, 10), (3, 11), (5, 11), (0, 12), (1, 12)] [⟨none, some 133, .load (some 5) false (.t 10)⟩,
 ⟨none, some 134, .load (some 5) false (.t 11)⟩,
 ⟨none, some 135, .load (some 6) false (.t 2)⟩,
 ⟨none, some 136, .fa 3 (.t 3)⟩,
 ⟨none, some 137, .load none false (.t 136)⟩,
 ⟨none, some 138, .ia (some 5) none (.t 137) (.v (.int .i64 2))⟩,
 ⟨none, some 139, .load (some 5) false (.t 138)⟩,
 ⟨none, some 140, .load (some 5) false (.t 10)⟩,
 ⟨none, some 141, .call [none] none 0 126 [(.t 140)]⟩,
 ⟨none, some 142, .fld none 3 (.t 141)⟩,
 ⟨none, some 143, .ia (some 6) none (.t 142) (.v (.int .i64 0))⟩,
 ⟨none, some 144, .load (some 6) false (.t 143)⟩,
 ⟨none, some 145, .call [none, none, none] none 0 116 [(.t 135), (.t 139), (.t 144)]⟩,
 ⟨none, some 146, .buildSl 5 [(.t 133), (.t 134), (.t 145)]⟩,
 ⟨none, some 147, .fa 3 (.t 3)⟩,
 ⟨none, none, (.store 1 (some 5) (.t 147) (.t 146))⟩])))) (.seq (.reg (.mk [2, 3, 4, 5, 15, 148] [(.par 0), (.loc 2), (.loc 3), (.loc 4), (.loc 5)] []) [⟨none, (some 149), (.bin [] .eql (.t 15) (.v (.str [105, 102])))⟩,
 ⟨none, some 148, .mvS none (.t 149)⟩])
  (.cond (.t 148) (.seq (.regD (.mk [2, 3, 4, 5] [(.par 0), (.loc 2), (.loc 3), (.loc 4), (.loc 5)] []) [(0, 1), (0, 3), (0, 5), (1, 5), (2, 5), (3, 5), (4, 5)] [⟨none, some 150, .load (some 6) false (.t 2)⟩,
 ⟨none, some 151, .fa 3 (.t 3)⟩,
 ⟨none, some 152, .load none false (.t 151)⟩,
 ⟨none, some 153, .ia (some 5) none (.t 152) (.v (.int .i64 0))⟩,
 ⟨none, some 154, .load (some 5) false (.t 153)⟩,
 ⟨none, some 155, .build [(0, 1), (1, 1), (2, 1), (3, 1), (4, 1), (5, 1)] [(.int .i64 0), (.str []), (.bool false), (.own 6 []), (.own 5 []), (.int .i64 0)] [0] [(.v (.int .i64 2))]⟩,
 ⟨none, some 156, .call [none, none, none] none 0 116 [(.t 150), (.t 154), (.t 155)]⟩,
 ⟨none, some 157, .buildSl 5 [(.t 156)]⟩,
 ⟨none, some 158, .fa 3 (.t 3)⟩,
 ⟨none, none, .store 1 (some 5) (.t 158) (.t 157)⟩])
  (.seq (.reg (.mk [2, 3, 4, 5] [(.par 0), (.loc 2), (.loc 3), (.loc 4), (.loc 5)] []) [⟨none, some 159, .load (some 6) false (.t 2)⟩,
 ⟨none, some 160, .fa 4 (.t 3)⟩,
 ⟨none, some 161, .load none false (.t 160)⟩,
 ⟨none, some 162, .call [none, (some 7)] none 0 52 [(.t 159), (.t 161)]⟩,
 ⟨none, some 163, .fa 4 (.t 3)⟩,
 ⟨none, none, .store 1 (some 7) (.t 163) (.t 162)⟩])
  (.reg (.mk [2, 3, 4, 5] [(.par 0), (.loc 2), (.loc 3), (.loc 4), (.loc 5)] []) [⟨none, some 164, .load (some 6) false (.t 2)⟩,
 ⟨none, some 165, .fa 5 (.t 3)⟩,
 ⟨none, some 166, .load none false (.t 165)⟩,
 ⟨none, some 167, .call [none, (some 7)] none 0 52 [(.t 164), (.t 166)]⟩,
 ⟨none, some 168, .fa 5 (.t 3)⟩,
 ⟨none, none, (.store 1 (some 7) (.t 168) (.t 167))⟩]))) (.seq (.reg (.mk [2, 3, 4, 5, 15, 169] [(.par 0), (.loc 2), (.loc 3), (.loc 4), (.loc 5)] []) [⟨none, (some 170), (.bin [] .eql (.t 15) (.v (.str [119, 104, 105, 108, 101])))⟩,
 ⟨none, some 169, .mvS none (.t 170)⟩])
  (.cond (.t 169) (.seq (.regD (.mk [2, 3, 4, 5, 12] [(.par 0), (.loc 2), (.loc 3), (.loc 4), (.loc 5)] []) [(0, 1), (0, 3), (0, 5), (1, 5), (2, 5), (3, 5), (4, 5)] [⟨none, some 171, .load (some 6) false (.t 2)⟩,
 ⟨none, some 172, .fa 3 (.t 3)⟩,
 ⟨none, some 173, .load none false (.t 172)⟩,
 ⟨none, some 174, .ia (some 5) none (.t 173) (.v (.int .i64 0))⟩,
 ⟨none, some 175, .load (some 5) false (.t 174)⟩,
 ⟨none, some 176, .build [(0, 1), (1, 1), (2, 1), (3, 1), (4, 1), (5, 1)] [(.int .i64 0), (.str []), (.bool false), (.own 6 []), (.own 5 []), (.int .i64 0)] [0] [(.v (.int .i64 2))]⟩,
 ⟨none, some 177, .call [none, none, none] none 0 116 [(.t 171), (.t 175), (.t 176)]⟩,
 ⟨none, some 178, .buildSl 5 [(.t 177)]⟩,
 ⟨none, some 12, .mvS (some 5) (.t 178)⟩])
  (.seq (.seq (.reg (.mk [2, 3, 4, 5, 12, 13] [(.par 0), (.loc 2), (.loc 3), (.loc 4), (.loc 5)] []) [⟨none, some 13, .mvS none (.v (.int .i64 1))⟩])
  (.block 1 (.loop (.mk [2, 3, 4, 5, 12, 13] [(.par 0), (.loc 2), (.loc 3), (.loc 4), (.loc 5)] []) (.seq (.seq (.reg (.mk [2, 3, 4, 5, 12, 13, 183] [(.par 0), (.loc 2), (.loc 3), (.loc 4), (.loc 5)] []) [⟨none, some 179, .mv none (.t 13)⟩,
 ⟨none, some 180, .fa 3 (.t 3)⟩,
 ⟨none, some 181, .load none false (.t 180)⟩,
 ⟨none, some 182, .lenSl (.t 181)⟩,
 ⟨none, some 183, .bin [] .lss (.t 179) (.t 182)⟩])
  (.cond (.t 183) .skip (.exit 1)))
  (.seq (.block 2 (.regD (.mk [2, 3, 4, 5, 12, 13] [(.par 0), (.loc 2), (.loc 3), (.loc 4), (.loc 5)] []) [(0, 1), (0, 2), (1, 2), (0, 3), (0, 4), (1, 4), (2, 4), (3, 4), (0, 5), (1, 5), (0, 6), (0, 7), (0, 8)] [⟨none, some 186, .mvS (some 5) (.t 12)⟩,
 ⟨none, some 187, .load (some 6) false (.t 2)⟩,
 ⟨none, some 188, .fa 3 (.t 3)⟩,
 ⟨none, some 189, .load none false (.t 188)⟩,
 ⟨none, some 190, .mv none (.t 13)⟩,
 ⟨none, some 191, .ia (some 5) none (.t 189) (.t 190)⟩,
 ⟨none, some 192, .load (some 5) false (.t 191)⟩,
 ⟨none, some 193, .call [none, none] none 0 84 [(.t 187), (.t 192)]⟩,
 ⟨none, some 194, .buildSl 5 [(.t 193)]⟩,
 ⟨none, some 195, .app 5 88 (.t 186) (.t 194)⟩,
 ⟨none, some 12, .mvS (some 5) (.t 195)⟩]))
  (.reg (.mk [2, 3, 4, 5, 12, 13] [(.par 0), (.loc 2), (.loc 3), (.loc 4), (.loc 5)] []) [⟨none, some 184, .mv none (.t 13)⟩,
 ⟨none, some 185, .bin [] .add (.t 184) (.v (.int .i64 1))⟩,
 ⟨none, some 13, .mvS none (.t 185)⟩]))))))
  (.seq (.reg (.mk [2, 3, 4, 5] [(.par 0), (.loc 2), (.loc 3), (.loc 4), (.loc 5)] []) [⟨none, some 196, .mv (some 5) (.t 12)⟩,
 ⟨none, some 197, .fa 3 (.t 3)⟩,
 ⟨none, none, .store 1 (some 5) (.t 197) (.t 196)⟩])
  (.reg (.mk [2, 3, 4, 5] [(.par 0), (.loc 2), (.loc 3), (.loc 4), (.loc 5)] []) [⟨none, some 198, .load (some 6) false (.t 2)⟩,
 ⟨none, some 199, .fa 4 (.t 3)⟩,
 ⟨none, some 200, .load none false (.t 199)⟩,
 ⟨none, some 201, .call [none, (some 7)] none 0 52 [(.t 198), (.t 200)]⟩,
 ⟨none, some 202, .fa 4 (.t 3)⟩,
 ⟨none, none, (.store 1 (some 7) (.t 202) (.t 201))⟩])))) (.seq (.reg (.mk [2, 3, 4, 5, 15, 203] [(.par 0), (.loc 2), (.loc 3), (.loc 4), (.loc 5)] []) [⟨none, (some 204), (.bin [] .eql (.t 15) (.v (.str [114, 101, 116, 117, 114, 110])))⟩,
 ⟨none, some 203, .mvS none (.t 204)⟩])
  (.cond (.t 203) (.reg (.mk [2, 3, 4, 5] [(.par 0), (.loc 2), (.loc 3), (.loc 4), (.loc 5)] []) [⟨none, some 205, .load (some 6) false (.t 2)⟩,
 ⟨none, some 206, .load (some 7) false (.t 3)⟩,
 ⟨none, some 207, .call [none, none] none 0 127 [(.t 205), (.t 206)]⟩,
 ⟨none, none, (.store 7 none (.t 3) (.t 207))⟩]) (.seq (.reg (.mk [2, 3, 4, 5, 15, 208] [(.par 0), (.loc 2), (.loc 3), (.loc 4), (.loc 5)] []) [⟨none, (some 209), (.bin [] .eql (.t 15) (.v (.str [97, 115, 115, 101, 114, 116])))⟩,
 ⟨none, some 208, .mvS none (.t 209)⟩])
  (.cond (.t 208) (.regD (.mk [2, 3, 4, 5] [(.par 0), (.loc 2), (.loc 3), (.loc 4), (.loc 5)] []) [(0, 1), (0, 3), (0, 5), (1, 5), (2, 5), (3, 5), (4, 5)] [⟨none, some 210, .load (some 6) false (.t 2)⟩,
 ⟨none, some 211, .fa 3 (.t 3)⟩,
 ⟨none, some 212, .load none false (.t 211)⟩,
 ⟨none, some 213, .ia (some 5) none (.t 212) (.v (.int .i64 0))⟩,
 ⟨none, some 214, .load (some 5) false (.t 213)⟩,
 ⟨none, some 215, .build [(0, 1), (1, 1), (2, 1), (3, 1), (4, 1), (5, 1)] [(.int .i64 0), (.str []), (.bool false), (.own 6 []), (.own 5 []), (.int .i64 0)] [0] [(.v (.int .i64 2))]⟩,
 ⟨none, some 216, .call [none, none, none] none 0 116 [(.t 210), (.t 214), (.t 215)]⟩,
 ⟨none, some 217, .buildSl 5 [(.t 216)]⟩,
 ⟨none, some 218, .fa 3 (.t 3)⟩,
 ⟨none, none, (.store 1 (some 5) (.t 218) (.t 217))⟩]) (.seq (.reg (.mk [2, 3, 4, 5, 219] [(.par 0), (.loc 2), (.loc 3), (.loc 4), (.loc 5)] []) [⟨none, (some 220), (.bin [] .eql (.t 15) (.v (.str [112, 114, 105, 110, 116])))⟩,
 ⟨none, some 219, .mvS none (.t 220)⟩])
  (.cond (.t 219) (.regD (.mk [2, 3, 4, 5] [(.par 0), (.loc 2), (.loc 3), (.loc 4), (.loc 5)] []) [(0, 1), (0, 3), (0, 5), (1, 5), (2, 5), (3, 5), (4, 5)] [⟨none, some 221, .load (some 6) false (.t 2)⟩,
 ⟨none, some 222, .fa 3 (.t 3)⟩,
 ⟨none, some 223, .load none false (.t 222)⟩,
 ⟨none, some 224, .ia (some 5) none (.t 223) (.v (.int .i64 0))⟩,
 ⟨none, some 225, .load (some 5) false (.t 224)⟩,
 ⟨none, some 226, .build [(0, 1), (1, 1), (2, 1), (3, 1), (4, 1), (5, 1)] [(.int .i64 0), (.str []), (.bool false), (.own 6 []), (.own 5 []), (.int .i64 0)] [0] [(.v (.int .i64 1))]⟩,
 ⟨none, some 227, .call [none, none, none] none 0 116 [(.t 221), (.t 225), (.t 226)]⟩,
 ⟨none, some 228, .buildSl 5 [(.t 227)]⟩,
 ⟨none, some 229, .fa 3 (.t 3)⟩,
 ⟨none, none, (.store 1 (some 5) (.t 229) (.t 228))⟩]) (.regD (.mk [2, 3, 4, 5] [(.par 0), (.loc 2), (.loc 3), (.loc 4), (.loc 5)] []) [(0, 1), (0, 3)] [⟨none, (some 16), (.load (some 6) false (.t 2))⟩,
 ⟨none, some 17, .fa 3 (.t 3)⟩,
 ⟨none, some 18, .load none false (.t 17)⟩,
 ⟨none, some 19, .ia (some 5) none (.t 18) (.v (.int .i64 0))⟩,
 ⟨none, some 20, .load (some 5) false (.t 19)⟩,
 ⟨none, some 21, .call [none, none] none 0 124 [(.t 16), (.t 20)]⟩,
 ⟨none, some 22, .buildSl 5 [(.t 21)]⟩,
 ⟨none, some 23, .fa 3 (.t 3)⟩,
 ⟨none, none, .store 1 (some 5) (.t 23) (.t 22)⟩])))))))))))))))))))))
  (.seq (.regD (.mk [4, 5] [(.par 0), (.loc 4), (.loc 5)] []) [(1, 2)] [⟨none, some 230, .load (some 7) false (.t 3)⟩,
 ⟨none, some 231, .load (some 6) false (.t 2)⟩,
 ⟨none, none, .store 7 none (.t 4) (.t 230)⟩,
 ⟨none, none, .store 6 none (.t 5) (.t 231)⟩])
  .ret)))
theorem k89 {B : Heap} {args : List V} {objs : List Ob} {S : Post} (h : acwp (COk Tryz.prog B) c89 (initSt args objs) (EndP (tabT tab) [.cell 4 103, .cell 5 132] objs.length (mvOf args objs) [] S)) (hn : args.length ≤ Tryz.f89.ntmps := by exact Nat.le_of_ble_eq_true rfl) : CallS Tryz.prog B (mvOf args objs) 89 args objs S :=
  callSB tabOk mixed Tryz.func89 Tryz.call89 (hints [] [([2, 3, 4, 5], [.par 0, .loc 2, .loc 3, .loc 4, .loc 5]), ([], [.par 0]), ([2, 3, 4, 5, 15], [.par 0, .loc 2, .loc 3, .loc 4, .loc 5]), ([], [.par 0]), ([2, 3, 4, 5], [.par 0, .loc 2, .loc 3, .loc 4, .loc 5]), ([], [.par 0]), ([2, 3, 4, 5, 15, 24], [.par 0, .loc 2, .loc 3, .loc 4, .loc 5]), ([], [.par 0]), ([4, 5], [.par 0, .loc 4, .loc 5]), ([], [.par 0]), ([2, 3, 4, 5, 15, 31], [.par 0, .loc 2, .loc 3, .loc 4, .loc 5]), ([], [.par 0]), ([2, 3, 4, 5, 6], [.par 0, .loc 2, .loc 3, .loc 4, .loc 5]), ([], [.par 0]), ([2, 3, 4, 5, 6, 38], [.par 0, .loc 2, .loc 3, .loc 4, .loc 5]), ([], [.par 0]), ([2, 3, 4, 5], [.par 0, .loc 2, .loc 3, .loc 4, .loc 5]), ([], [.par 0]), ([4, 5], [.par 0, .loc 4, .loc 5]), ([], [.par 0]), ([2, 3, 4, 5, 6, 50], [.par 0, .loc 2, .loc 3, .loc 4, .loc 5]), ([], [.par 0]), ([2, 3, 4, 5, 6], [.par 0, .loc 2, .loc 3, .loc 4, .loc 5]), ([], [.par 0]), ([2, 3, 4, 5], [.par 0, .loc 2, .loc 3, .loc 4, .loc 5]), ([], [.par 0]), ([2, 3, 4, 5, 15, 69], [.par 0, .loc 2, .loc 3, .loc 4, .loc 5]), ([], [.par 0]), ([2, 3, 4, 5, 7], [.par 0, .loc 2, .loc 3, .loc 4, .loc 5, .loc 7]), ([], [.par 0]), ([2, 3, 4, 5, 7, 8, 9], [.par 0, .loc 2, .loc 3, .loc 4, .loc 5, .loc 7, .loc 8]), ([], [.par 0]), ([2, 3, 4, 5, 7, 8, 88], [.par 0, .loc 2, .loc 3, .loc 4, .loc 5, .loc 7, .loc 8]), ([], [.par 0]), ([4, 5], [.par 0, .loc 4, .loc 5]), ([], [.par 0]), ([2, 3, 4, 5, 7, 8, 92], [.par 0, .loc 2, .loc 3, .loc 4, .loc 5, .loc 7, .loc 8]), ([], [.par 0]), ([2, 3, 4, 5, 7, 8], [.par 0, .loc 2, .loc 3, .loc 4, .loc 5, .loc 7, .loc 8]), ([], [.par 0]), ([2, 3, 4, 5], [.par 0, .loc 2, .loc 3, .loc 4, .loc 5]), ([], [.par 0]), ([2, 3, 4, 5, 15, 108], [.par 0, .loc 2, .loc 3, .loc 4, .loc 5]), ([], [.par 0]), ([2, 3, 4, 5, 10], [.par 0, .loc 2, .loc 3, .loc 4, .loc 5, .loc 10]), ([], [.par 0]), ([2, 3, 4, 5, 10, 119], [.par 0, .loc 2, .loc 3, .loc 4, .loc 5, .loc 10]), ([], [.par 0]), ([2, 3, 4, 5], [.par 0, .loc 2, .loc 3, .loc 4, .loc 5]), ([], [.par 0]), ([4, 5], [.par 0, .loc 4, .loc 5]), ([], [.par 0]), ([2, 3, 4, 5, 10, 11], [.par 0, .loc 2, .loc 3, .loc 4, .loc 5, .loc 10, .loc 11]), ([], [.par 0]), ([2, 3, 4, 5], [.par 0, .loc 2, .loc 3, .loc 4, .loc 5]), ([], [.par 0]), ([2, 3, 4, 5, 15, 148], [.par 0, .loc 2, .loc 3, .loc 4, .loc 5]), ([], [.par 0]), ([2, 3, 4, 5], [.par 0, .loc 2, .loc 3, .loc 4, .loc 5]), ([], [.par 0]), ([2, 3, 4, 5], [.par 0, .loc 2, .loc 3, .loc 4, .loc 5]), ([], [.par 0]), ([2, 3, 4, 5], [.par 0, .loc 2, .loc 3, .loc 4, .loc 5]), ([], [.par 0]), ([2, 3, 4, 5, 15, 169], [.par 0, .loc 2, .loc 3, .loc 4, .loc 5]), ([], [.par 0]), ([2, 3, 4, 5, 12], [.par 0, .loc 2, .loc 3, .loc 4, .loc 5]), ([], [.par 0]), ([2, 3, 4, 5, 12, 13], [.par 0, .loc 2, .loc 3, .loc 4, .loc 5]), ([], [.par 0]), ([2, 3, 4, 5, 12, 13, 183], [.par 0, .loc 2, .loc 3, .loc 4, .loc 5]), ([2, 3, 4, 5, 12, 13], [.par 0, .loc 2, .loc 3, .loc 4, .loc 5]), ([2, 3, 4, 5, 12, 13], [.par 0, .loc 2, .loc 3, .loc 4, .loc 5]), ([], [.par 0]), ([2, 3, 4, 5, 12, 13], [.par 0, .loc 2, .loc 3, .loc 4, .loc 5]), ([], [.par 0]), ([2, 3, 4, 5], [.par 0, .loc 2, .loc 3, .loc 4, .loc 5]), ([], [.par 0]), ([2, 3, 4, 5], [.par 0, .loc 2, .loc 3, .loc 4, .loc 5]), ([], [.par 0]), ([2, 3, 4, 5, 15, 203], [.par 0, .loc 2, .loc 3, .loc 4, .loc 5]), ([], [.par 0]), ([2, 3, 4, 5], [.par 0, .loc 2, .loc 3, .loc 4, .loc 5]), ([], [.par 0]), ([2, 3, 4, 5, 15, 208], [.par 0, .loc 2, .loc 3, .loc 4, .loc 5]), ([], [.par 0]), ([2, 3, 4, 5], [.par 0, .loc 2, .loc 3, .loc 4, .loc 5]), ([], [.par 0]), ([2, 3, 4, 5, 219], [.par 0, .loc 2, .loc 3, .loc 4, .loc 5]), ([], [.par 0]), ([2, 3, 4, 5], [.par 0, .loc 2, .loc 3, .loc 4, .loc 5]), ([], [.par 0]), ([4, 5], [.par 0, .loc 4, .loc 5]), ([], [.par 0])]) ⟨[4, 5], [], [], []⟩ (by kernel_rfl) rfl rfl (by decide) hn h
def c91 : AC :=
  (.seq (.reg (.mk [0, 3, 5, 6, 8] [(.par 0), (.par 1), (.par 2), (.sub 29 0), (.sub 38 0), (.loc 5), (.loc 6), (.loc 8)] []) [⟨none, some 5, .box 7 [(.str []), (.str []), (.own 6 []), (.own 5 []), (.own 7 []), (.own 7 []), (.int .i64 0)] (.t 1)⟩,
 ⟨none, some 6, .box 8 [(.str []), (.str []), (.own 6 []), (.own 5 []), (.own 8 []), (.own 8 []), (.own 4 []), (.int .i64 0)] (.t 2)⟩,
 ⟨none, some 8, .alloc [(.str []), (.str []), (.own 6 []), (.own 5 []), (.own 8 []), (.own 8 []), (.own 4 []), (.int .i64 0)]⟩,
 ⟨none, some 9, .mvS none (.v (.bool false))⟩])
  (.seq (.reg (.mk [0, 3, 5, 6, 8] [(.par 0), (.par 1), (.par 2), (.sub 29 0), (.sub 38 0), (.loc 5), (.loc 6), (.loc 8)] []) [⟨none, some 19, .fa 3 (.t 5)⟩,
 ⟨none, some 20, .load none false (.t 19)⟩,
 ⟨none, some 21, .mv none (.t 3)⟩,
 ⟨none, some 22, .call [(some 5), none] none 0 93 [(.t 20), (.t 21)]⟩,
 ⟨none, some 23, .fa 3 (.t 6)⟩,
 ⟨none, none, .store 1 (some 5) (.t 23) (.t 22)⟩])
  (.seq (.reg (.mk [0, 3, 5, 6, 8, 10, 11, 12] [(.par 0), (.par 1), (.par 2), (.sub 29 0), (.sub 38 0), (.loc 5), (.loc 6), (.loc 8)] []) [⟨none, some 25, .mv none (.t 0)⟩,
 ⟨none, some 26, .fa 4 (.t 5)⟩,
 ⟨none, some 27, .load none false (.t 26)⟩,
 ⟨none, some 28, .mv none (.t 3)⟩,
 ⟨none, some 29, .call [none, (some 7), none] none 1 129 [(.t 25), (.t 27), (.t 28)]⟩,
 ⟨none, some 24, .mv none (.t 29)⟩,
 ⟨none, some 30, .ext (.t 24) 0⟩,
 ⟨none, some 31, .ext (.t 24) 1⟩,
 ⟨none, some 32, .ext (.t 24) 2⟩,
 ⟨none, some 10, .mvS (some 8) (.t 30)⟩,
 ⟨none, some 11, .mvS none (.t 31)⟩,
 ⟨none, some 12, .mvS none (.t 32)⟩])
  (.seq (.reg (.mk [0, 3, 6, 8, 10, 11, 12, 13, 14, 15] [(.par 0), (.par 1), (.par 2), (.sub 29 0), (.sub 38 0), (.loc 6), (.loc 8)] []) [⟨none, some 34, .mv none (.t 0)⟩,
 ⟨none, some 35, .fa 5 (.t 5)⟩,
 ⟨none, some 36, .load none false (.t 35)⟩,
 ⟨none, some 37, .mv none (.t 3)⟩,
 ⟨none, some 38, .call [none, (some 7), none] none 1 129 [(.t 34), (.t 36), (.t 37)]⟩,
 ⟨none, some 33, .mv none (.t 38)⟩,
 ⟨none, some 39, .ext (.t 33) 0⟩,
 ⟨none, some 40, .ext (.t 33) 1⟩,
 ⟨none, some 41, .ext (.t 33) 2⟩,
 ⟨none, some 13, .mvS (some 8) (.t 39)⟩,
 ⟨none, some 14, .mvS none (.t 40)⟩,
 ⟨none, some 15, .mvS none (.t 41)⟩])
  (.seq (.reg (.mk [0, 3, 6, 8, 11, 12, 14, 15] [(.par 0), (.par 1), (.par 2), (.sub 29 0), (.sub 38 0), (.loc 6), (.loc 8)] []) [⟨none, some 42, .mv (some 8) (.t 10)⟩,
 ⟨none, some 43, .mv (some 8) (.t 13)⟩,
 ⟨none, some 44, .fa 4 (.t 6)⟩,
 ⟨none, none, .store 1 (some 8) (.t 44) (.t 42)⟩,
 ⟨none, some 45, .fa 5 (.t 6)⟩,
 ⟨none, none, .store 1 (some 8) (.t 45) (.t 43)⟩])
  (.seq (.seq (.reg (.mk [0, 3, 6, 8, 11, 12, 14, 15, 47, 48, 49] [(.par 0), (.par 1), (.par 2), (.sub 29 0), (.sub 38 0), (.loc 6), (.loc 8)] []) [⟨none, some 46, .mv none (.t 3)⟩,
 ⟨none, some 47, .call [none] none 0 130 [(.t 46)]⟩,
 ⟨none, some 48, .lenSl (.t 47)⟩,
 ⟨none, some 49, .mv none (.v (.int .i64 0))⟩])
  (.block 0 (.loop (.mk [0, 3, 6, 8, 11, 12, 14, 15, 47, 48, 49] [(.par 0), (.par 1), (.par 2), (.sub 29 0), (.sub 38 0), (.loc 6), (.loc 8)] []) (.seq (.reg (.mk [0, 3, 6, 8, 11, 12, 14, 15, 47, 48, 49, 50] [(.par 0), (.par 1), (.par 2), (.sub 29 0), (.sub 38 0), (.loc 6), (.loc 8)] []) [⟨none, some 50, .bin [] .lss (.t 49) (.t 48)⟩])
  (.seq (.cond (.t 50) .skip (.exit 0))
  (.seq (.block 1 (.seq (.reg (.mk [0, 3, 6, 8, 11, 12, 14, 15, 17, 47, 48, 49] [(.par 0), (.par 1), (.par 2), (.sub 29 0), (.sub 38 0), (.loc 6), (.loc 8)] []) [⟨none, some 51, .ia (some 1) none (.t 47) (.t 49)⟩,
 ⟨none, some 52, .load none false (.t 51)⟩,
 ⟨none, some 17, .mvS none (.t 52)⟩])
  (.block 2 (.seq (.reg (.mk [0, 3, 6, 8, 11, 12, 14, 15, 17, 47, 48, 49, 53] [(.par 0), (.par 1), (.par 2), (.sub 29 0), (.sub 38 0), (.loc 6), (.loc 8)] []) [⟨none, some 54, .mv none (.t 12)⟩,
 ⟨none, some 55, .mv none (.t 54)⟩,
 ⟨some (55, true), some 56, .mv none (.t 15)⟩,
 ⟨none, some 57, .pick (.t 55) (.t 56) (.v (.bool false))⟩,
 ⟨none, some 58, .mv none (.t 57)⟩,
 ⟨some (58, true), some 59, .mv none (.t 11)⟩,
 ⟨some (58, true), some 60, .mv none (.t 17)⟩,
 ⟨some (58, true), some 61, .mlook 4 (.agg [(.str [])]) false (.t 59) (.t 60)⟩,
 ⟨some (58, true), some 62, .mv none (.t 14)⟩,
 ⟨some (58, true), some 63, .mv none (.t 17)⟩,
 ⟨some (58, true), some 64, .mlook 4 (.agg [(.str [])]) false (.t 62) (.t 63)⟩,
 ⟨some (58, true), some 65, .bin [10, 4] .neq (.t 61) (.t 64)⟩,
 ⟨none, some 66, .pick (.t 58) (.t 65) (.v (.bool false))⟩,
 ⟨none, some 53, .mvS none (.t 66)⟩])
  (.cond (.t 53) (.seq (.regD (.mk [0, 3, 6, 8, 11, 12, 14, 15, 17, 18, 47, 48, 49] [(.par 0), (.par 1), (.par 2), (.sub 29 0), (.sub 38 0), (.loc 6), (.loc 8), (.loc 18)] []) [(0, 1), (0, 2), (1, 2), (0, 3), (0, 4), (1, 4), (2, 4), (3, 4), (0, 5), (1, 5), (2, 5), (3, 5), (4, 5), (0, 6), (1, 6), (2, 6), (3, 6), (0, 7), (1, 7), (2, 7), (3, 7), (0, 8), (1, 8), (2, 8), (3, 8), (4, 8), (5, 8), (6, 8), (7, 8), (0, 9), (1, 9), (2, 9), (3, 9), (4, 9), (5, 9), (6, 9), (7, 9), (8, 9), (0, 10), (1, 10), (2, 10), (3, 10), (4, 10), (5, 10), (6, 10), (7, 10), (0, 11), (1, 11), (2, 11), (3, 11), (4, 11), (5, 11), (6, 11), (7, 11), (0, 13), (1, 13), (2, 13), (3, 13), (4, 13), (5, 13), (6, 13), (7, 13), (8, 13), (9, 13), (10, 13), (11, 13), (12, 13)] [⟨none, some 67, .mv none (.t 17)⟩,
 ⟨none, some 68, .mv none (.t 0)⟩,
 ⟨none, some 69, .mv none (.t 17)⟩,
 ⟨none, some 70, .call [none, none] none 0 28 [(.t 68), (.t 69)]⟩,
 ⟨none, some 71, .mv none (.t 11)⟩,
 ⟨none, some 72, .mv none (.t 17)⟩,
 ⟨none, some 73, .mlook 4 (.agg [(.str [])]) false (.t 71) (.t 72)⟩,
 ⟨none, some 74, .fld none 0 (.t 73)⟩,
 ⟨none, some 75, .mv none (.t 14)⟩,
 ⟨none, some 76, .mv none (.t 17)⟩,
 ⟨none, some 77, .mlook 4 (.agg [(.str [])]) false (.t 75) (.t 76)⟩,
 ⟨none, some 78, .fld none 0 (.t 77)⟩,
 ⟨none, some 79, .build [(0, 1), (1, 1), (2, 1), (3, 1)] [(.str []), (.str []), (.str []), (.str [])] [0, 1, 2, 3] [(.t 67), (.t 70), (.t 74), (.t 78)]⟩,
 ⟨none, some 18, .alloc [(.str []), (.str []), (.str []), (.str [])]⟩,
 ⟨none, none, .store 4 none (.t 18) (.t 79)⟩])
  (.seq (.reg (.mk [0, 3, 6, 8, 11, 12, 14, 15, 17, 18, 47, 48, 49] [(.par 0), (.par 1), (.par 2), (.sub 29 0), (.sub 38 0), (.loc 6), (.loc 8), (.loc 18)] []) [⟨none, some 80, .fa 6 (.t 6)⟩,
 ⟨none, some 81, .load none true (.t 80)⟩,
 ⟨none, some 82, .load (some 4) false (.t 18)⟩,
 ⟨none, some 83, .buildSl 4 [(.t 82)]⟩,
 ⟨none, some 84, .app 4 64 (.t 81) (.t 83)⟩,
 ⟨none, some 85, .fa 6 (.t 6)⟩,
 ⟨none, none, .store 1 (some 4) (.t 85) (.t 84)⟩])
  (.reg (.mk [0, 3, 6, 8, 11, 12, 14, 15, 47, 48, 49] [(.par 0), (.par 1), (.par 2), (.sub 29 0), (.sub 38 0), (.loc 6), (.loc 8)] []) [⟨none, some 86, .mv none (.t 3)⟩,
 ⟨none, some 87, .mv none (.t 17)⟩,
 ⟨none, some 88, .fa 1 (.t 18)⟩,
 ⟨none, some 89, .load none false (.t 88)⟩,
 ⟨none, some 90, .build [(0, 1)] [(.str [])] [0] [(.t 89)]⟩,
 ⟨none, none, (.mput 4 (.t 86) (.t 87) (.t 90))⟩]))) (.seq (.reg (.mk [0, 3, 6, 8, 11, 12, 14, 15, 17, 47, 48, 49, 91] [(.par 0), (.par 1), (.par 2), (.sub 29 0), (.sub 38 0), (.loc 6), (.loc 8)] []) [⟨none, (some 92), (.mv none (.t 12))⟩,
 ⟨none, some 91, .mvS none (.t 92)⟩])
  (.cond (.t 91) (.reg (.mk [0, 3, 6, 8, 11, 12, 14, 15, 47, 48, 49] [(.par 0), (.par 1), (.par 2), (.sub 29 0), (.sub 38 0), (.loc 6), (.loc 8)] []) [⟨none, some 93, .mv none (.t 3)⟩,
 ⟨none, some 94, .mv none (.t 17)⟩,
 ⟨none, some 95, .mv none (.t 11)⟩,
 ⟨none, some 96, .mv none (.t 17)⟩,
 ⟨none, some 97, .mlook 4 (.agg [(.str [])]) false (.t 95) (.t 96)⟩,
 ⟨none, none, (.mput 4 (.t 93) (.t 94) (.t 97))⟩]) (.seq (.reg (.mk [0, 3, 6, 8, 11, 12, 14, 15, 17, 47, 48, 49, 98] [(.par 0), (.par 1), (.par 2), (.sub 29 0), (.sub 38 0), (.loc 6), (.loc 8)] []) [⟨none, (some 99), (.mv none (.t 15))⟩,
 ⟨none, some 98, .mvS none (.t 99)⟩])
  (.cond (.t 98) (.reg (.mk [0, 3, 6, 8, 11, 12, 14, 15, 47, 48, 49] [(.par 0), (.par 1), (.par 2), (.sub 29 0), (.sub 38 0), (.loc 6), (.loc 8)] []) [⟨none, some 100, .mv none (.t 3)⟩,
 ⟨none, some 101, .mv none (.t 17)⟩,
 ⟨none, some 102, .mv none (.t 14)⟩,
 ⟨none, some 103, .mv none (.t 17)⟩,
 ⟨none, some 104, .mlook 4 (.agg [(.str [])]) false (.t 102) (.t 103)⟩,
 ⟨none, none, .mput 4 (.t 100) (.t 101) (.t 104)⟩]) .skip)))))))))
  (.reg (.mk [0, 3, 6, 8, 11, 12, 14, 15, 47, 48, 49] [(.par 0), (.par 1), (.par 2), (.sub 29 0), (.sub 38 0), (.loc 6), (.loc 8)] []) [⟨none, some 105, .bin [] .add (.t 49) (.v (.int .i64 1))⟩,
 ⟨none, some 49, .mv none (.t 105)⟩])))))))
  (.seq (.reg (.mk [8, 9] [(.par 0), (.par 1), (.par 2), (.sub 29 0), (.sub 38 0), (.loc 8)] []) [⟨none, some 106, .load (some 8) false (.t 6)⟩,
 ⟨none, some 107, .mv none (.t 12)⟩,
 ⟨none, some 108, .mv none (.t 107)⟩,
 ⟨some (108, false), some 109, .mv none (.t 15)⟩,
 ⟨none, some 110, .pick (.t 108) (.v (.bool true)) (.t 109)⟩,
 ⟨none, none, .store 8 none (.t 8) (.t 106)⟩,
 ⟨none, some 9, .mvS none (.t 110)⟩])
  .ret)))))))
theorem k91 {B : Heap} {args : List V} {objs : List Ob} {S : Post} (h : acwp (COk Tryz.prog B) c91 (initSt args objs) (EndP (tabT tab) [.cell 8 59, .tmp 9] objs.length (mvOf args objs) [] S)) (hn : args.length ≤ Tryz.f91.ntmps := by exact Nat.le_of_ble_eq_true rfl) : CallS Tryz.prog B (mvOf args objs) 91 args objs S :=
  callSB tabOk mixed Tryz.func91 Tryz.call91 (hints [] [([0, 3, 5, 6, 8], [.par 0, .par 1, .par 2, .sub 29 0, .sub 38 0, .loc 5, .loc 6, .loc 8]), ([], [.par 0, .par 1, .par 2, .sub 29 0, .sub 38 0]), ([0, 3, 5, 6, 8], [.par 0, .par 1, .par 2, .sub 29 0, .sub 38 0, .loc 5, .loc 6, .loc 8]), ([], [.par 0, .par 1, .par 2, .sub 29 0, .sub 38 0]), ([0, 3, 5, 6, 8, 10, 11, 12], [.par 0, .par 1, .par 2, .sub 29 0, .sub 38 0, .loc 5, .loc 6, .loc 8]), ([], [.par 0, .par 1, .par 2, .sub 29 0, .sub 38 0]), ([0, 3, 6, 8, 10, 11, 12, 13, 14, 15], [.par 0, .par 1, .par 2, .sub 29 0, .sub 38 0, .loc 6, .loc 8]), ([], [.par 0, .par 1, .par 2, .sub 29 0, .sub 38 0]), ([0, 3, 6, 8, 11, 12, 14, 15], [.par 0, .par 1, .par 2, .sub 29 0, .sub 38 0, .loc 6, .loc 8]), ([], [.par 0, .par 1, .par 2, .sub 29 0, .sub 38 0]), ([0, 3, 6, 8, 11, 12, 14, 15, 47, 48, 49], [.par 0, .par 1, .par 2, .sub 29 0, .sub 38 0, .loc 6, .loc 8]), ([], [.par 0, .par 1, .par 2, .sub 29 0, .sub 38 0]), ([0, 3, 6, 8, 11, 12, 14, 15, 47, 48, 49, 50], [.par 0, .par 1, .par 2, .sub 29 0, .sub 38 0, .loc 6, .loc 8]), ([0, 3, 6, 8, 11, 12, 14, 15, 47, 48, 49], [.par 0, .par 1, .par 2, .sub 29 0, .sub 38 0, .loc 6, .loc 8]), ([0, 3, 6, 8, 11, 12, 14, 15, 17, 47, 48, 49], [.par 0, .par 1, .par 2, .sub 29 0, .sub 38 0, .loc 6, .loc 8]), ([], [.par 0, .par 1, .par 2, .sub 29 0, .sub 38 0]), ([0, 3, 6, 8, 11, 12, 14, 15, 17, 47, 48, 49, 53], [.par 0, .par 1, .par 2, .sub 29 0, .sub 38 0, .loc 6, .loc 8]), ([], [.par 0, .par 1, .par 2, .sub 29 0, .sub 38 0]), ([0, 3, 6, 8, 11, 12, 14, 15, 17, 18, 47, 48, 49], [.par 0, .par 1, .par 2, .sub 29 0, .sub 38 0, .loc 6, .loc 8, .loc 18]), ([], [.par 0, .par 1, .par 2, .sub 29 0, .sub 38 0]), ([0, 3, 6, 8, 11, 12, 14, 15, 17, 18, 47, 48, 49], [.par 0, .par 1, .par 2, .sub 29 0, .sub 38 0, .loc 6, .loc 8, .loc 18]), ([], [.par 0, .par 1, .par 2, .sub 29 0, .sub 38 0]), ([0, 3, 6, 8, 11, 12, 14, 15, 47, 48, 49], [.par 0, .par 1, .par 2, .sub 29 0, .sub 38 0, .loc 6, .loc 8]), ([], [.par 0, .par 1, .par 2, .sub 29 0, .sub 38 0]), ([0, 3, 6, 8, 11, 12, 14, 15, 17, 47, 48, 49, 91], [.par 0, .par 1, .par 2, .sub 29 0, .sub 38 0, .loc 6, .loc 8]), ([], [.par 0, .par 1, .par 2, .sub 29 0, .sub 38 0]), ([0, 3, 6, 8, 11, 12, 14, 15, 47, 48, 49], [.par 0, .par 1, .par 2, .sub 29 0, .sub 38 0, .loc 6, .loc 8]), ([], [.par 0, .par 1, .par 2, .sub 29 0, .sub 38 0]), ([0, 3, 6, 8, 11, 12, 14, 15, 17, 47, 48, 49, 98], [.par 0, .par 1, .par 2, .sub 29 0, .sub 38 0, .loc 6, .loc 8]), ([], [.par 0, .par 1, .par 2, .sub 29 0, .sub 38 0]), ([0, 3, 6, 8, 11, 12, 14, 15, 47, 48, 49], [.par 0, .par 1, .par 2, .sub 29 0, .sub 38 0, .loc 6, .loc 8]), ([], [.par 0, .par 1, .par 2, .sub 29 0, .sub 38 0]), ([0, 3, 6, 8, 11, 12, 14, 15, 47, 48, 49], [.par 0, .par 1, .par 2, .sub 29 0, .sub 38 0, .loc 6, .loc 8]), ([], [.par 0, .par 1, .par 2, .sub 29 0, .sub 38 0]), ([8, 9], [.par 0, .par 1, .par 2, .sub 29 0, .sub 38 0, .loc 8]), ([], [.par 0, .par 1, .par 2, .sub 29 0, .sub 38 0])]) ⟨[8, 9], [], [], [(129, 1)]⟩ (by kernel_rfl) rfl rfl (by decide) hn h
def c93 : AC :=
  (.seq (.reg (.mk [0, 1] [(.par 0)] []) [⟨none, some 4, .mvS (some 5) (.v .nils)⟩])
  (.seq (.reg (.mk [0, 1, 5] [(.par 0)] []) [⟨none, some 5, .mvS (some 5) (.v .nils)⟩])
  (.seq (.seq (.reg (.mk [1, 5, 8, 9, 10] [(.par 0)] []) [⟨none, some 8, .mv (some 5) (.t 0)⟩,
 ⟨none, some 9, .lenSl (.t 8)⟩,
 ⟨none, some 10, .mv none (.v (.int .i64 0))⟩])
  (.block 0 (.loop (.mk [1, 5, 8, 9, 10] [(.par 0)] []) (.seq (.reg (.mk [1, 5, 8, 9, 10, 11] [(.par 0)] []) [⟨none, some 11, .bin [] .lss (.t 10) (.t 9)⟩])
  (.seq (.cond (.t 11) .skip (.exit 0))
  (.seq (.block 1 (.seq (.reg (.mk [1, 5, 7, 8, 9, 10] [(.par 0), (.loc 7)] []) [⟨none, some 12, .ia (some 5) none (.t 8) (.t 10)⟩,
 ⟨none, some 13, .load (some 5) false (.t 12)⟩,
 ⟨none, some 7, .alloc [(.str []), (.str []), (.own 5 []), (.own 6 []), (.int .i64 0)]⟩,
 ⟨none, none, .store 5 none (.t 7) (.t 13)⟩])
  (.reg (.mk [1, 5, 8, 9, 10] [(.par 0)] []) [⟨none, some 14, .mvS (some 5) (.t 5)⟩,
 ⟨none, some 15, .load (some 5) false (.t 7)⟩,
 ⟨none, some 16, .mv none (.t 1)⟩,
 ⟨none, some 17, .call [none, none] none 0 132 [(.t 15), (.t 16)]⟩,
 ⟨none, some 18, .buildSl 5 [(.t 17)]⟩,
 ⟨none, some 19, .app 5 88 (.t 14) (.t 18)⟩,
 ⟨none, some 5, .mvS (some 5) (.t 19)⟩])))
  (.reg (.mk [1, 5, 8, 9, 10] [(.par 0)] []) [⟨none, some 20, .bin [] .add (.t 10) (.v (.int .i64 1))⟩,
 ⟨none, some 10, .mv none (.t 20)⟩])))))))
  (.seq (.reg (.mk [4] [(.par 0)] []) [⟨none, some 21, .mvS (some 5) (.t 5)⟩,
 ⟨none, some 4, .mvS (some 5) (.t 21)⟩])
  .ret))))
theorem k93 {B : Heap} {args : List V} {objs : List Ob} {S : Post} (h : acwp (COk Tryz.prog B) c93 (initSt args objs) (EndP (tabT tab) [.tmp 4] objs.length (mvOf args objs) [] S)) (hn : args.length ≤ Tryz.f93.ntmps := by exact Nat.le_of_ble_eq_true rfl) : CallS Tryz.prog B (mvOf args objs) 93 args objs S :=
  callSB tabOk mixed Tryz.func93 Tryz.call93 (hints [] [([0, 1], [.par 0]), ([], [.par 0]), ([0, 1, 5], [.par 0]), ([], [.par 0]), ([1, 5, 8, 9, 10], [.par 0]), ([], [.par 0]), ([1, 5, 8, 9, 10, 11], [.par 0]), ([1, 5, 8, 9, 10], [.par 0]), ([1, 5, 7, 8, 9, 10], [.par 0, .loc 7]), ([], [.par 0]), ([1, 5, 8, 9, 10], [.par 0]), ([], [.par 0]), ([1, 5, 8, 9, 10], [.par 0]), ([], [.par 0]), ([4], [.par 0]), ([], [.par 0])]) ⟨[4], [], [], []⟩ (by kernel_rfl) rfl rfl (by decide) hn h
def c99 : AC :=
  (.seq (.reg (.mk [0, 1] [] []) [⟨none, some 4, .mvS none (.v (.bool false))⟩])
  (.seq (.seq (.reg (.mk [0, 1, 5] [] []) [⟨none, some 5, .mvS none (.v (.int .i64 0))⟩])
  (.block 0 (.loop (.mk [0, 1, 5] [] []) (.seq (.seq (.reg (.mk [0, 1, 5, 9] [] []) [⟨none, some 6, .mv none (.t 5)⟩,
 ⟨none, some 7, .mv (some 1) (.t 0)⟩,
 ⟨none, some 8, .lenSl (.t 7)⟩,
 ⟨none, some 9, .bin [] .lss (.t 6) (.t 8)⟩])
  (.cond (.t 9) .skip (.exit 0)))
  (.seq (.block 1 (.seq (.reg (.mk [0, 1, 5, 17] [] []) [⟨none, some 12, .mv (some 1) (.t 0)⟩,
 ⟨none, some 13, .mv none (.t 5)⟩,
 ⟨none, some 14, .ia (some 1) none (.t 12) (.t 13)⟩,
 ⟨none, some 15, .load none false (.t 14)⟩,
 ⟨none, some 16, .mv none (.t 1)⟩,
 ⟨none, some 17, .bin [] .eql (.t 15) (.t 16)⟩])
  (.cond (.t 17) (.seq (.reg (.mk [4] [] []) [⟨none, some 4, .mvS none (.v (.bool true))⟩])
  .ret) .skip)))
  (.reg (.mk [0, 1, 5] [] []) [⟨none, some 10, .mv none (.t 5)⟩,
 ⟨none, some 11, .bin [] .add (.t 10) (.v (.int .i64 1))⟩,
 ⟨none, some 5, .mvS none (.t 11)⟩]))))))
  (.seq (.reg (.mk [4] [] []) [⟨none, some 4, .mvS none (.v (.bool false))⟩])
  .ret)))
theorem k99 {B : Heap} {args : List V} {objs : List Ob} {S : Post} (h : acwp (COk Tryz.prog B) c99 (initSt args objs) (EndP (tabT tab) [.tmp 4] objs.length (mvOf args objs) [] S)) (hn : args.length ≤ Tryz.f99.ntmps := by exact Nat.le_of_ble_eq_true rfl) : CallS Tryz.prog B (mvOf args objs) 99 args objs S :=
  callSB tabOk mixed Tryz.func99 Tryz.call99 (hints [] [([0, 1], []), ([], []), ([0, 1, 5], []), ([], []), ([0, 1, 5, 9], []), ([0, 1, 5], []), ([0, 1, 5], []), ([], []), ([0, 1, 5, 17], []), ([], []), ([4], []), ([], []), ([4], []), ([], [])]) ⟨[4], [], [], []⟩ (by kernel_rfl) rfl rfl (by decide) hn h
def c100 : AC :=
  (.seq (.reg (.mk [0] [] []) [⟨none, some 2, .mvS none (.v (.bool false))⟩])
  (.seq (.seq (.reg (.mk [0, 21] [] []) [⟨none, some 4, .mv none (.t 0)⟩,
 ⟨none, some 5, .lenStr (.t 4)⟩,
 ⟨none, some 6, .bin [] .eql (.t 5) (.v (.int .i64 0))⟩,
 ⟨none, some 7, .mv none (.t 6)⟩,
 ⟨some (7, false), some 8, .mv none (.t 0)⟩,
 ⟨some (7, false), some 9, .lenStr (.t 8)⟩,
 ⟨some (7, false), some 10, .bin [] .gtr (.t 9) (.v (.int .i64 40))⟩,
 ⟨none, some 11, .pick (.t 7) (.v (.bool true)) (.t 10)⟩,
 ⟨none, some 12, .mv none (.t 11)⟩,
 ⟨some (12, false), some 13, .mv none (.t 0)⟩,
 ⟨some (12, false), some 14, .ix (.t 13) (.v (.int .i64 0))⟩,
 ⟨some (12, false), some 15, .call [none] none 0 64 [(.t 14)]⟩,
 ⟨some (12, false), some 16, .bin [] .neq (.t 15) (.v (.int .i64 1))⟩,
 ⟨none, some 17, .pick (.t 12) (.v (.bool true)) (.t 16)⟩,
 ⟨none, some 18, .mv none (.t 17)⟩,
 ⟨some (18, false), some 19, .mv none (.t 0)⟩,
 ⟨some (18, false), some 20, .call [none] none 0 137 [(.t 19)]⟩,
 ⟨none, some 21, .pick (.t 18) (.v (.bool true)) (.t 20)⟩])
  (.cond (.t 21) (.seq (.reg (.mk [2] [] []) [⟨none, some 2, .mvS none (.v (.bool false))⟩])
  .ret) .skip))
  (.seq (.seq (.reg (.mk [0, 3] [] []) [⟨none, some 3, .mvS none (.v (.int .i64 0))⟩])
  (.block 0 (.loop (.mk [0, 3] [] []) (.seq (.seq (.reg (.mk [0, 3, 25] [] []) [⟨none, some 22, .mv none (.t 3)⟩,
 ⟨none, some 23, .mv none (.t 0)⟩,
 ⟨none, some 24, .lenStr (.t 23)⟩,
 ⟨none, some 25, .bin [] .lss (.t 22) (.t 24)⟩])
  (.cond (.t 25) .skip (.exit 0)))
  (.seq (.block 1 (.seq (.reg (.mk [0, 3, 39] [] []) [⟨none, some 28, .mv none (.t 0)⟩,
 ⟨none, some 29, .mv none (.t 3)⟩,
 ⟨none, some 30, .ix (.t 28) (.t 29)⟩,
 ⟨none, some 31, .call [none] none 0 64 [(.t 30)]⟩,
 ⟨none, some 32, .bin [] .neq (.t 31) (.v (.int .i64 1))⟩,
 ⟨none, some 33, .mv none (.t 32)⟩,
 ⟨some (33, true), some 34, .mv none (.t 0)⟩,
 ⟨some (33, true), some 35, .mv none (.t 3)⟩,
 ⟨some (33, true), some 36, .ix (.t 34) (.t 35)⟩,
 ⟨some (33, true), some 37, .call [none] none 0 64 [(.t 36)]⟩,
 ⟨some (33, true), some 38, .bin [] .neq (.t 37) (.v (.int .i64 2))⟩,
 ⟨none, some 39, .pick (.t 33) (.t 38) (.v (.bool false))⟩])
  (.cond (.t 39) (.seq (.reg (.mk [2] [] []) [⟨none, some 2, .mvS none (.v (.bool false))⟩])
  .ret) .skip)))
  (.reg (.mk [0, 3] [] []) [⟨none, some 26, .mv none (.t 3)⟩,
 ⟨none, some 27, .bin [] .add (.t 26) (.v (.int .i64 1))⟩,
 ⟨none, some 3, .mvS none (.t 27)⟩]))))))
  (.seq (.reg (.mk [2] [] []) [⟨none, some 2, .mvS none (.v (.bool true))⟩])
  .ret))))
theorem k100 {B : Heap} {args : List V} {objs : List Ob} {S : Post} (h : acwp (COk Tryz.prog B) c100 (initSt args objs) (EndP (tabT tab) [.tmp 2] objs.length (mvOf args objs) [] S)) (hn : args.length ≤ Tryz.f100.ntmps := by exact Nat.le_of_ble_eq_true rfl) : CallS Tryz.prog B (mvOf args objs) 100 args objs S :=
  callSB tabOk mixed Tryz.func100 Tryz.call100 (hints [] [([0], []), ([], []), ([0, 21], []), ([], []), ([2], []), ([], []), ([0, 3], []), ([], []), ([0, 3, 25], []), ([0, 3], []), ([0, 3], []), ([], []), ([0, 3, 39], []), ([], []), ([2], []), ([], []), ([2], []), ([], [])]) ⟨[2], [], [], []⟩ (by kernel_rfl) rfl rfl (by decide) hn h
def c102 : AC :=
  (.seq (.reg (.mk [0, 2] [(.par 0), (.loc 2)] []) [⟨none, some 2, .alloc [(.str []), (.str []), (.own 5 []), (.own 6 []), (.int .i64 0)]⟩])
  (.seq (.reg (.mk [0, 2, 3] [(.par 0), (.loc 2), (.loc 3)] []) [⟨none, some 3, .alloc [(.str []), (.str []), (.own 5 []), (.own 6 []), (.int .i64 0)]⟩])
  (.seq (.seq (.reg (.mk [0, 2, 3, 5] [(.par 0), (.loc 2), (.loc 3)] []) [⟨none, some 4, .mv none (.t 0)⟩,
 ⟨none, some 5, .call [none] none 0 73 [(.t 4)]⟩])
  (.cond (.t 5) (.reg (.mk [0, 2, 3] [(.par 0), (.loc 2), (.loc 3)] []) [⟨none, some 6, .mv none (.t 0)⟩,
 ⟨none, some 7, .call [none, none] none 0 139 [(.t 6), (.v (.int .i64 0))]⟩,
 ⟨none, none, .store 5 none (.t 3) (.t 7)⟩]) .skip))
  (.seq (.reg (.mk [2, 3] [(.par 0), (.loc 2), (.loc 3)] []) [⟨none, some 8, .mv none (.t 0)⟩,
 ⟨none, some 9, .nilc (.t 8)⟩,
 ⟨none, some 10, .fa 3 (.t 9)⟩,
 ⟨none, some 11, .load none false (.t 10)⟩,
 ⟨none, some 12, .bin [] .sub (.t 11) (.v (.int .i64 1))⟩,
 ⟨none, some 13, .nilc (.t 8)⟩,
 ⟨none, some 14, .fa 3 (.t 13)⟩,
 ⟨none, none, .store 1 none (.t 14) (.t 12)⟩])
  (.seq (.reg (.mk [2] [(.par 0), (.loc 2)] []) [⟨none, some 15, .load (some 5) false (.t 3)⟩,
 ⟨none, none, .store 5 none (.t 2) (.t 15)⟩])
  .ret)))))
theorem k102 {B : Heap} {args : List V} {objs : List Ob} {S : Post} (h : acwp (COk Tryz.prog B) c102 (initSt args objs) (EndP (tabT tab) [.cell 2 63] objs.length (mvOf args objs) [] S)) (hn : args.length ≤ Tryz.f102.ntmps := by exact Nat.le_of_ble_eq_true rfl) : CallS Tryz.prog B (mvOf args objs) 102 args objs S :=
  callSB tabOk mixed Tryz.func102 Tryz.call102 (hints [] [([0, 2], [.par 0, .loc 2]), ([], [.par 0]), ([0, 2, 3], [.par 0, .loc 2, .loc 3]), ([], [.par 0]), ([0, 2, 3, 5], [.par 0, .loc 2, .loc 3]), ([], [.par 0]), ([0, 2, 3], [.par 0, .loc 2, .loc 3]), ([], [.par 0]), ([2, 3], [.par 0, .loc 2, .loc 3]), ([], [.par 0]), ([2], [.par 0, .loc 2]), ([], [.par 0])]) ⟨[2], [], [], []⟩ (by kernel_rfl) rfl rfl (by decide) hn h
def c105 : AC :=
  (.seq (.reg (.mk [0, 2] [(.par 0), (.loc 2)] []) [⟨none, some 2, .alloc [(.str []), (.str []), (.own 6 []), (.own 5 []), (.own 7 []), (.own 7 []), (.int .i64 0)]⟩])
  (.seq (.reg (.mk [0, 2, 3] [(.par 0), (.loc 2), (.loc 3)] []) [⟨none, some 4, .mv none (.t 0)⟩,
 ⟨none, some 5, .call [none] none 0 67 [(.t 4)]⟩,
 ⟨none, some 6, .build [(0, 1), (1, 1), (2, 1), (3, 1), (4, 1), (5, 1), (6, 1)] [(.str []), (.str []), (.own 6 []), (.own 5 []), (.own 7 []), (.own 7 []), (.int .i64 0)] [0, 6] [(.v (.str [105, 102])), (.t 5)]⟩,
 ⟨none, some 3, .alloc [(.str []), (.str []), (.own 6 []), (.own 5 []), (.own 7 []), (.own 7 []), (.int .i64 0)]⟩,
 ⟨none, none, .store 7 none (.t 3) (.t 6)⟩])
  (.seq (.reg (.mk [0, 2, 3] [(.par 0), (.loc 2), (.loc 3)] []) [⟨none, some 7, .mv none (.t 0)⟩,
 ⟨none, some 8, .call [none, none] none 0 47 [(.t 7), (.v (.str [105, 102]))]⟩])
  (.seq (.reg (.mk [0, 2, 3] [(.par 0), (.loc 2), (.loc 3)] []) [⟨none, some 9, .mv none (.t 0)⟩,
 ⟨none, some 10, .call [none, none] none 0 47 [(.t 9), (.v (.str [40]))]⟩])
  (.seq (.reg (.mk [0, 2, 3] [(.par 0), (.loc 2), (.loc 3)] []) [⟨none, some 11, .mv none (.t 0)⟩,
 ⟨none, some 12, .call [none] none 0 102 [(.t 11)]⟩,
 ⟨none, some 13, .buildSl 5 [(.t 12)]⟩,
 ⟨none, some 14, .fa 3 (.t 3)⟩,
 ⟨none, none, .store 1 (some 5) (.t 14) (.t 13)⟩])
  (.seq (.reg (.mk [0, 2, 3] [(.par 0), (.loc 2), (.loc 3)] []) [⟨none, some 15, .mv none (.t 0)⟩,
 ⟨none, some 16, .call [none, none] none 0 47 [(.t 15), (.v (.str [41]))]⟩])
  (.seq (.reg (.mk [0, 2, 3] [(.par 0), (.loc 2), (.loc 3)] []) [⟨none, some 17, .mv none (.t 0)⟩,
 ⟨none, some 18, .call [none] none 0 48 [(.t 17)]⟩,
 ⟨none, some 19, .fa 4 (.t 3)⟩,
 ⟨none, none, .store 1 (some 7) (.t 19) (.t 18)⟩])
  (.seq (.seq (.reg (.mk [0, 2, 3, 21] [(.par 0), (.loc 2), (.loc 3)] []) [⟨none, some 20, .mv none (.t 0)⟩,
 ⟨none, some 21, .call [none, none] none 0 69 [(.t 20), (.v (.str [101, 108, 115, 101]))]⟩])
  (.cond (.t 21) (.seq (.reg (.mk [0, 2, 3, 23] [(.par 0), (.loc 2), (.loc 3)] []) [⟨none, some 22, .mv none (.t 0)⟩,
 ⟨none, some 23, .call [none, none, none] none 0 44 [(.t 22), (.v (.int .i64 0)), (.v (.str [105, 102]))]⟩])
  (.cond (.t 23) (.seq (.seq (.reg (.mk [0, 2, 3, 25] [(.par 0), (.loc 2), (.loc 3)] []) [⟨none, some 24, .mv none (.t 0)⟩,
 ⟨none, some 25, .call [none] none 0 73 [(.t 24)]⟩])
  (.cond (.t 25) (.reg (.mk [0, 2, 3] [(.par 0), (.loc 2), (.loc 3)] []) [⟨none, some 26, .mv none (.t 0)⟩,
 ⟨none, some 27, .call [none] none 0 105 [(.t 26)]⟩,
 ⟨none, some 28, .buildSl 7 [(.t 27)]⟩,
 ⟨none, some 29, .fa 5 (.t 3)⟩,
 ⟨none, none, .store 1 (some 7) (.t 29) (.t 28)⟩]) .skip))
  (.reg (.mk [2, 3] [(.par 0), (.loc 2), (.loc 3)] []) [⟨none, some 30, .mv none (.t 0)⟩,
 ⟨none, some 31, .nilc (.t 30)⟩,
 ⟨none, some 32, .fa 3 (.t 31)⟩,
 ⟨none, some 33, .load none false (.t 32)⟩,
 ⟨none, some 34, .bin [] .sub (.t 33) (.v (.int .i64 1))⟩,
 ⟨none, some 35, .nilc (.t 30)⟩,
 ⟨none, some 36, .fa 3 (.t 35)⟩,
 ⟨none, none, (.store 1 none (.t 36) (.t 34))⟩])) (.reg (.mk [2, 3] [(.par 0), (.loc 2), (.loc 3)] []) [⟨none, (some 37), (.mv none (.t 0))⟩,
 ⟨none, some 38, .call [none] none 0 48 [(.t 37)]⟩,
 ⟨none, some 39, .fa 5 (.t 3)⟩,
 ⟨none, none, .store 1 (some 7) (.t 39) (.t 38)⟩]))) .skip))
  (.seq (.reg (.mk [2] [(.par 0), (.loc 2)] []) [⟨none, some 40, .load (some 7) false (.t 3)⟩,
 ⟨none, none, .store 7 none (.t 2) (.t 40)⟩])
  .ret)))))))))
theorem k105 {B : Heap} {args : List V} {objs : List Ob} {S : Post} (h : acwp (COk Tryz.prog B) c105 (initSt args objs) (EndP (tabT tab) [.cell 2 103] objs.length (mvOf args objs) [] S)) (hn : args.length ≤ Tryz.f105.ntmps := by exact Nat.le_of_ble_eq_true rfl) : CallS Tryz.prog B (mvOf args objs) 105 args objs S :=
  callSB tabOk mixed Tryz.func105 Tryz.call105 (hints [] [([0, 2], [.par 0, .loc 2]), ([], [.par 0]), ([0, 2, 3], [.par 0, .loc 2, .loc 3]), ([], [.par 0]), ([0, 2, 3], [.par 0, .loc 2, .loc 3]), ([], [.par 0]), ([0, 2, 3], [.par 0, .loc 2, .loc 3]), ([], [.par 0]), ([0, 2, 3], [.par 0, .loc 2, .loc 3]), ([], [.par 0]), ([0, 2, 3], [.par 0, .loc 2, .loc 3]), ([], [.par 0]), ([0, 2, 3], [.par 0, .loc 2, .loc 3]), ([], [.par 0]), ([0, 2, 3, 21], [.par 0, .loc 2, .loc 3]), ([], [.par 0]), ([0, 2, 3, 23], [.par 0, .loc 2, .loc 3]), ([], [.par 0]), ([0, 2, 3, 25], [.par 0, .loc 2, .loc 3]), ([], [.par 0]), ([0, 2, 3], [.par 0, .loc 2, .loc 3]), ([], [.par 0]), ([2, 3], [.par 0, .loc 2, .loc 3]), ([], [.par 0]), ([2, 3], [.par 0, .loc 2, .loc 3]), ([], [.par 0]), ([2], [.par 0, .loc 2]), ([], [.par 0])]) ⟨[2], [], [], []⟩ (by kernel_rfl) rfl rfl (by decide) hn h
def c106 : AC :=
  (.seq (.reg (.mk [0, 1, 4] [(.par 0), (.par 1), (.loc 4)] []) [⟨none, some 5, .mv none (.t 0)⟩,
 ⟨none, some 6, .call [none] none 0 102 [(.t 5)]⟩,
 ⟨none, some 4, .alloc [(.str []), (.str []), (.own 5 []), (.own 6 []), (.int .i64 0)]⟩,
 ⟨none, none, .store 5 none (.t 4) (.t 6)⟩])
  (.seq (.reg (.mk [0, 1, 4] [(.par 0), (.par 1), (.loc 4)] []) [⟨none, some 7, .mv none (.t 1)⟩,
 ⟨none, some 8, .nilc (.t 7)⟩,
 ⟨none, some 9, .fa 0 (.t 8)⟩,
 ⟨none, none, .store 1 none (.t 9) (.v (.str [100, 111]))⟩])
  (.seq (.reg (.mk [0, 1, 4] [(.par 0), (.par 1), (.loc 4)] []) [⟨none, some 10, .mv none (.t 1)⟩,
 ⟨none, some 11, .load (some 5) false (.t 4)⟩,
 ⟨none, some 12, .buildSl 5 [(.t 11)]⟩,
 ⟨none, some 13, .nilc (.t 10)⟩,
 ⟨none, some 14, .fa 3 (.t 13)⟩,
 ⟨none, none, .store 1 (some 5) (.t 14) (.t 12)⟩])
  (.seq (.seq (.reg (.mk [0, 1, 4, 16] [(.par 0), (.par 1), (.loc 4)] []) [⟨none, some 15, .mv none (.t 0)⟩,
 ⟨none, some 16, .call [none, none, none] none 0 44 [(.t 15), (.v (.int .i64 0)), (.v (.str [61]))]⟩])
  (.cond (.t 16) (.seq (.seq (.reg (.mk [0, 1, 4, 18] [(.par 0), (.par 1), (.loc 4)] []) [⟨none, some 17, .fa 0 (.t 4)⟩,
 ⟨none, some 18, .load none false (.t 17)⟩])
  (.block 0 (.seq (.reg (.mk [0, 1, 4, 18, 21] [(.par 0), (.par 1), (.loc 4)] []) [⟨none, some 22, .bin [] .eql (.t 18) (.v (.str [118, 97, 114]))⟩,
 ⟨none, some 21, .mvS none (.t 22)⟩])
  (.cond (.t 21) (.regD (.mk [0, 1] [(.par 0), (.par 1)] []) [(0, 1), (0, 2), (1, 2), (0, 3), (1, 3), (2, 3), (0, 4), (1, 4), (2, 4), (1, 5), (2, 5), (3, 5), (4, 5), (1, 6), (2, 6), (3, 6), (4, 6), (1, 7), (2, 7), (3, 7), (4, 7), (2, 8), (2, 9), (2, 10)] [⟨none, some 23, .mv none (.t 1)⟩,
 ⟨none, some 24, .mv none (.t 1)⟩,
 ⟨none, some 25, .mv none (.t 1)⟩,
 ⟨none, some 26, .fa 1 (.t 4)⟩,
 ⟨none, some 27, .load none false (.t 26)⟩,
 ⟨none, some 28, .nilc (.t 23)⟩,
 ⟨none, some 29, .fa 0 (.t 28)⟩,
 ⟨none, none, .store 1 none (.t 29) (.v (.str [115, 101, 116]))⟩,
 ⟨none, some 30, .nilc (.t 24)⟩,
 ⟨none, some 31, .fa 1 (.t 30)⟩,
 ⟨none, none, .store 1 none (.t 31) (.t 27)⟩,
 ⟨none, some 32, .nilc (.t 25)⟩,
 ⟨none, some 33, .fa 3 (.t 32)⟩,
 ⟨none, none, (.store 1 (some 5) (.t 33) (.v .nils))⟩]) (.seq (.reg (.mk [0, 1, 4, 18, 34] [(.par 0), (.par 1), (.loc 4)] []) [⟨none, (some 35), (.bin [] .eql (.t 18) (.v (.str [102, 105, 101, 108, 100])))⟩,
 ⟨none, some 34, .mvS none (.t 35)⟩])
  (.cond (.t 34) (.regD (.mk [0, 1] [(.par 0), (.par 1)] []) [(0, 1), (0, 2), (1, 2), (0, 3), (1, 3), (2, 3), (0, 4), (1, 4), (2, 4), (0, 5), (1, 5), (2, 5), (3, 5), (4, 5), (0, 6), (1, 6), (2, 6), (3, 6), (0, 7), (1, 7), (2, 7), (3, 7), (4, 7), (0, 8), (1, 8), (2, 8), (3, 8), (0, 9), (1, 9), (2, 9), (3, 9), (4, 9), (1, 10), (2, 10), (3, 10), (4, 10), (9, 10), (1, 11), (2, 11), (3, 11), (4, 11), (9, 11), (1, 12), (2, 12), (3, 12), (4, 12), (9, 12), (2, 13), (9, 13), (2, 14), (9, 14), (2, 15), (9, 15)] [⟨none, some 36, .mv none (.t 1)⟩,
 ⟨none, some 37, .mv none (.t 1)⟩,
 ⟨none, some 38, .mv none (.t 1)⟩,
 ⟨none, some 39, .fa 1 (.t 4)⟩,
 ⟨none, some 40, .load none false (.t 39)⟩,
 ⟨none, some 41, .fa 2 (.t 4)⟩,
 ⟨none, some 42, .load none false (.t 41)⟩,
 ⟨none, some 43, .ia (some 5) none (.t 42) (.v (.int .i64 0))⟩,
 ⟨none, some 44, .load (some 5) false (.t 43)⟩,
 ⟨none, some 45, .buildSl 5 [(.t 44)]⟩,
 ⟨none, some 46, .nilc (.t 36)⟩,
 ⟨none, some 47, .fa 0 (.t 46)⟩,
 ⟨none, none, .store 1 none (.t 47) (.v (.str [102, 105, 101, 108, 100]))⟩,
 ⟨none, some 48, .nilc (.t 37)⟩,
 ⟨none, some 49, .fa 1 (.t 48)⟩,
 ⟨none, none, .store 1 none (.t 49) (.t 40)⟩,
 ⟨none, some 50, .nilc (.t 38)⟩,
 ⟨none, some 51, .fa 3 (.t 50)⟩,
 ⟨none, none, (.store 1 (some 5) (.t 51) (.t 45))⟩]) (.seq (.reg (.mk [0, 1, 4, 52] [(.par 0), (.par 1), (.loc 4)] []) [⟨none, (some 53), (.bin [] .eql (.t 18) (.v (.str [105, 110, 100, 101, 120])))⟩,
 ⟨none, some 52, .mvS none (.t 53)⟩])
  (.cond (.t 52) (.regD (.mk [0, 1] [(.par 0), (.par 1)] []) [(0, 1), (0, 2), (1, 2), (0, 3), (1, 3), (0, 4), (1, 4), (0, 5), (1, 5), (0, 6), (1, 6), (2, 6), (3, 6), (4, 6), (5, 6), (0, 7), (1, 7), (2, 7), (4, 7), (0, 8), (1, 8), (2, 8), (3, 8), (4, 8), (5, 8), (0, 9), (1, 9), (2, 9), (4, 9), (0, 10), (1, 10), (1, 11), (10, 11), (1, 12), (10, 12), (1, 13), (10, 13)] [⟨none, some 54, .mv none (.t 1)⟩,
 ⟨none, some 55, .mv none (.t 1)⟩,
 ⟨none, some 56, .fa 2 (.t 4)⟩,
 ⟨none, some 57, .load none false (.t 56)⟩,
 ⟨none, some 58, .ia (some 5) none (.t 57) (.v (.int .i64 0))⟩,
 ⟨none, some 59, .load (some 5) false (.t 58)⟩,
 ⟨none, some 60, .fa 2 (.t 4)⟩,
 ⟨none, some 61, .load none false (.t 60)⟩,
 ⟨none, some 62, .ia (some 5) none (.t 61) (.v (.int .i64 1))⟩,
 ⟨none, some 63, .load (some 5) false (.t 62)⟩,
 ⟨none, some 64, .buildSl 5 [(.t 59), (.t 63)]⟩,
 ⟨none, some 65, .nilc (.t 54)⟩,
 ⟨none, some 66, .fa 0 (.t 65)⟩,
 ⟨none, none, .store 1 none (.t 66) (.v (.str [101, 108, 101, 109]))⟩,
 ⟨none, some 67, .nilc (.t 55)⟩,
 ⟨none, some 68, .fa 3 (.t 67)⟩,
 ⟨none, none, (.store 1 (some 5) (.t 68) (.t 64))⟩]) (.reg (.mk [0, 1] [(.par 0), (.par 1)] []) [⟨none, (some 19), (.mv none (.t 0))⟩,
 ⟨none, some 20, .call [none, none] none 0 49 [(.t 19), (.v (.int .i64 110))]⟩])))))))))
  (.seq (.reg (.mk [0, 1] [(.par 0), (.par 1)] []) [⟨none, some 69, .mv none (.t 0)⟩,
 ⟨none, some 70, .call [none, none] none 0 47 [(.t 69), (.v (.str [61]))]⟩])
  (.regD (.mk [0] [(.par 0), (.par 1)] []) [(0, 4), (1, 4), (2, 4), (3, 4), (0, 5), (1, 5), (2, 5), (3, 5), (4, 6), (5, 6), (0, 7), (1, 7), (2, 7), (3, 7), (4, 7), (5, 7), (6, 7), (9, 11), (10, 11), (9, 12), (10, 12), (9, 13), (10, 13)] [⟨none, some 71, .mv none (.t 1)⟩,
 ⟨none, some 72, .nilc (.t 71)⟩,
 ⟨none, some 73, .fa 3 (.t 72)⟩,
 ⟨none, some 74, .load none true (.t 73)⟩,
 ⟨none, some 75, .mv none (.t 0)⟩,
 ⟨none, some 76, .call [none] none 0 102 [(.t 75)]⟩,
 ⟨none, some 77, .lenSl (.t 74)⟩,
 ⟨none, some 78, .buildSl 5 [(.v (.agg [(.str []), (.str []), (.own 5 []), (.own 6 []), (.int .i64 0)]))]⟩,
 ⟨none, some 79, .appF 5 88 77 76 (.t 74) (.t 78)⟩,
      ⟨none, (some 80), .nopD⟩,
      ⟨none, none, .nopS⟩,
 ⟨none, some 81, .nilc (.t 71)⟩,
 ⟨none, some 82, .fa 3 (.t 81)⟩,
 ⟨none, none, .store 1 (some 5) (.t 82) (.t 79)⟩]))) .skip))
  (.reg (.mk [] [(.par 0), (.par 1)] []) [⟨none, some 83, .mv none (.t 0)⟩,
 ⟨none, some 84, .call [none, none] none 0 47 [(.t 83), (.v (.str [59]))]⟩])))))
theorem k106 {B : Heap} {args : List V} {objs : List Ob} {S : Post} (h : acwp (COk Tryz.prog B) c106 (initSt args objs) (EndP (tabT tab) [] objs.length (mvOf args objs) [] S)) (hn : args.length ≤ Tryz.f106.ntmps := by exact Nat.le_of_ble_eq_true rfl) : CallS Tryz.prog B (mvOf args objs) 106 args objs S :=
  callSB tabOk mixed Tryz.func106 Tryz.call106 (hints [] [([0, 1, 4], [.par 0, .par 1, .loc 4]), ([], [.par 0, .par 1]), ([0, 1, 4], [.par 0, .par 1, .loc 4]), ([], [.par 0, .par 1]), ([0, 1, 4], [.par 0, .par 1, .loc 4]), ([], [.par 0, .par 1]), ([0, 1, 4, 16], [.par 0, .par 1, .loc 4]), ([], [.par 0, .par 1]), ([0, 1, 4, 18], [.par 0, .par 1, .loc 4]), ([], [.par 0, .par 1]), ([0, 1], [.par 0, .par 1]), ([], [.par 0, .par 1]), ([0, 1, 4, 18, 21], [.par 0, .par 1, .loc 4]), ([], [.par 0, .par 1]), ([0, 1], [.par 0, .par 1]), ([], [.par 0, .par 1]), ([0, 1, 4, 18, 34], [.par 0, .par 1, .loc 4]), ([], [.par 0, .par 1]), ([0, 1], [.par 0, .par 1]), ([], [.par 0, .par 1]), ([0, 1, 4, 52], [.par 0, .par 1, .loc 4]), ([], [.par 0, .par 1]), ([0, 1], [.par 0, .par 1]), ([], [.par 0, .par 1]), ([0, 1], [.par 0, .par 1]), ([], [.par 0, .par 1]), ([0], [.par 0, .par 1]), ([], [.par 0, .par 1]), ([], [.par 0, .par 1]), ([], [.par 0, .par 1])]) ⟨[], [], [], []⟩ (by kernel_rfl) rfl rfl (by decide) hn h
def c115 : AC :=
  (.seq (.reg (.mk [1, 3, 4, 6, 8] [(.par 0), (.loc 4), (.loc 6), (.loc 8)] []) [⟨none, some 4, .box 6 [(.own 9 []), (.str []), (.own 8 []), (.bool false), (.own 6 []), .nilp] (.t 0)⟩,
 ⟨none, some 6, .box 6 [(.int .i64 0), (.str []), (.bool false), (.own 6 []), (.own 5 []), (.int .i64 0)] (.t 2)⟩,
 ⟨none, some 8, .alloc [(.own 9 []), (.str []), (.own 8 []), (.bool false), (.own 6 []), .nilp]⟩])
  (.seq (.reg (.mk [1, 3, 4, 6, 8, 9] [(.par 0), (.loc 4), (.loc 6), (.loc 8)] []) [⟨none, some 10, .buildSl 8 []⟩,
 ⟨none, some 11, .fa 2 (.t 4)⟩,
 ⟨none, some 12, .load none false (.t 11)⟩,
 ⟨none, some 13, .app 8 112 (.t 10) (.t 12)⟩,
 ⟨none, some 9, .mvS (some 8) (.t 13)⟩])
  (.seq (.reg (.mk [4, 8] [(.par 0), (.loc 4), (.loc 8)] []) [⟨none, some 14, .mvS (some 8) (.t 9)⟩,
 ⟨none, some 15, .mv none (.t 1)⟩,
 ⟨none, some 16, .load (some 6) false (.t 6)⟩,
 ⟨none, some 17, .call [none] none 0 141 [(.t 16)]⟩,
 ⟨none, some 18, .mv none (.t 3)⟩,
 ⟨none, some 19, .build [(0, 1), (1, 6), (7, 1)] [(.str []), (.int .i64 0), (.str []), (.bool false), (.own 6 []), (.own 5 []), (.int .i64 0), (.bool false)] [0, 1, 2] [(.t 15), (.t 17), (.t 18)]⟩,
 ⟨none, some 20, .buildSl 8 [(.t 19)]⟩,
 ⟨none, some 21, .app 8 112 (.t 14) (.t 20)⟩,
 ⟨none, some 22, .fa 2 (.t 4)⟩,
 ⟨none, none, .store 1 (some 8) (.t 22) (.t 21)⟩])
  (.seq (.reg (.mk [8] [(.par 0), (.loc 8)] []) [⟨none, some 23, .load (some 6) false (.t 4)⟩,
 ⟨none, none, .store 6 none (.t 8) (.t 23)⟩])
  .ret))))
theorem k115 {B : Heap} {args : List V} {objs : List Ob} {S : Post} (h : acwp (COk Tryz.prog B) c115 (initSt args objs) (EndP (tabT tab) [.cell 8 132] objs.length (mvOf args objs) [] S)) (hn : args.length ≤ Tryz.f115.ntmps := by exact Nat.le_of_ble_eq_true rfl) : CallS Tryz.prog B (mvOf args objs) 115 args objs S :=
  callSB tabOk mixed Tryz.func115 Tryz.call115 (hints [] [([1, 3, 4, 6, 8], [.par 0, .loc 4, .loc 6, .loc 8]), ([], [.par 0]), ([1, 3, 4, 6, 8, 9], [.par 0, .loc 4, .loc 6, .loc 8]), ([], [.par 0]), ([4, 8], [.par 0, .loc 4, .loc 8]), ([], [.par 0]), ([8], [.par 0, .loc 8]), ([], [.par 0])]) ⟨[8], [], [], []⟩ (by kernel_rfl) rfl rfl (by decide) hn h
def c116 : AC :=
  (.seq (.reg (.mk [3, 4, 5, 6] [(.par 0), (.loc 3), (.loc 4), (.loc 5), (.loc 6)] []) [⟨none, some 3, .box 6 [(.own 9 []), (.str []), (.own 8 []), (.bool false), (.own 6 []), .nilp] (.t 0)⟩,
 ⟨none, some 4, .box 5 [(.str []), (.str []), (.own 5 []), (.own 6 []), (.int .i64 0)] (.t 1)⟩,
 ⟨none, some 5, .box 6 [(.int .i64 0), (.str []), (.bool false), (.own 6 []), (.own 5 []), (.int .i64 0)] (.t 2)⟩,
 ⟨none, some 6, .alloc [(.str []), (.str []), (.own 5 []), (.own 6 []), (.int .i64 0)]⟩])
  (.seq (.reg (.mk [3, 4, 5, 6, 7] [(.par 0), (.loc 3), (.loc 4), (.loc 5), (.loc 6), (.loc 7)] []) [⟨none, some 8, .load (some 6) false (.t 3)⟩,
 ⟨none, some 9, .load (some 5) false (.t 4)⟩,
 ⟨none, some 10, .call [none, none] none 0 124 [(.t 8), (.t 9)]⟩,
 ⟨none, some 7, .alloc [(.str []), (.str []), (.own 5 []), (.own 6 []), (.int .i64 0)]⟩,
 ⟨none, none, .store 5 none (.t 7) (.t 10)⟩])
  (.seq (.seq (.regD (.mk [3, 4, 6, 7, 17] [(.par 0), (.loc 3), (.loc 4), (.loc 6), (.loc 7)] []) [(0, 2), (0, 3), (1, 3), (0, 4), (3, 4)] [⟨none, some 11, .fa 0 (.t 3)⟩,
 ⟨none, some 12, .load none false (.t 11)⟩,
 ⟨none, some 13, .load (some 5) false (.t 7)⟩,
 ⟨none, some 14, .call [none] none 0 126 [(.t 13)]⟩,
 ⟨none, some 15, .load (some 6) false (.t 5)⟩,
 ⟨none, some 16, .call [(some 9), none, none] none 0 142 [(.t 12), (.t 14), (.t 15)]⟩,
 ⟨none, some 17, .un .not (.t 16)⟩])
  (.cond (.t 17) (.reg (.mk [6, 7] [(.par 0), (.loc 6), (.loc 7)] []) [⟨none, some 18, .load (some 6) false (.t 3)⟩,
 ⟨none, some 19, .fa 4 (.t 4)⟩,
 ⟨none, some 20, .load none false (.t 19)⟩,
 ⟨none, some 21, .call [none, none, none] none 0 85 [(.t 18), (.v (.int .i64 131)), (.t 20)]⟩]) .skip))
  (.seq (.reg (.mk [6] [(.par 0), (.loc 6)] []) [⟨none, some 22, .load (some 5) false (.t 7)⟩,
 ⟨none, none, .store 5 none (.t 6) (.t 22)⟩])
  .ret))))
theorem k116 {B : Heap} {args : List V} {objs : List Ob} {S : Post} (h : acwp (COk Tryz.prog B) c116 (initSt args objs) (EndP (tabT tab) [.cell 6 63] objs.length (mvOf args objs) [] S)) (hn : args.length ≤ Tryz.f116.ntmps := by exact Nat.le_of_ble_eq_true rfl) : CallS Tryz.prog B (mvOf args objs) 116 args objs S :=
  callSB tabOk mixed Tryz.func116 Tryz.call116 (hints [] [([3, 4, 5, 6], [.par 0, .loc 3, .loc 4, .loc 5, .loc 6]), ([], [.par 0]), ([3, 4, 5, 6, 7], [.par 0, .loc 3, .loc 4, .loc 5, .loc 6, .loc 7]), ([], [.par 0]), ([3, 4, 6, 7, 17], [.par 0, .loc 3, .loc 4, .loc 6, .loc 7]), ([], [.par 0]), ([6, 7], [.par 0, .loc 6, .loc 7]), ([], [.par 0]), ([6], [.par 0, .loc 6]), ([], [.par 0])]) ⟨[6], [], [], []⟩ (by kernel_rfl) rfl rfl (by decide) hn h
def c118 : AC :=
  (.seq (.reg (.mk [1, 2] [(.par 0), (.loc 2)] []) [⟨none, some 2, .box 6 [(.own 9 []), (.str []), (.own 8 []), (.bool false), (.own 6 []), .nilp] (.t 0)⟩,
 ⟨none, some 4, .mvS (some 5) (.v .nils)⟩])
  (.seq (.reg (.mk [1, 2, 5] [(.par 0), (.loc 2)] []) [⟨none, some 5, .mvS (some 5) (.v .nils)⟩])
  (.seq (.seq (.reg (.mk [1, 2, 5, 6] [(.par 0), (.loc 2)] []) [⟨none, some 6, .mvS none (.v (.int .i64 0))⟩])
  (.block 0 (.loop (.mk [1, 2, 5, 6] [(.par 0), (.loc 2)] []) (.seq (.seq (.reg (.mk [1, 2, 5, 6, 10] [(.par 0), (.loc 2)] []) [⟨none, some 7, .mv none (.t 6)⟩,
 ⟨none, some 8, .mv (some 5) (.t 1)⟩,
 ⟨none, some 9, .lenSl (.t 8)⟩,
 ⟨none, some 10, .bin [] .lss (.t 7) (.t 9)⟩])
  (.cond (.t 10) .skip (.exit 0)))
  (.seq (.block 1 (.regD (.mk [1, 2, 5, 6] [(.par 0), (.loc 2)] []) [(0, 1), (0, 2), (1, 2), (0, 3), (1, 3), (2, 3), (0, 4), (1, 4), (0, 5), (0, 6), (0, 7)] [⟨none, some 13, .mvS (some 5) (.t 5)⟩,
 ⟨none, some 14, .load (some 6) false (.t 2)⟩,
 ⟨none, some 15, .mv (some 5) (.t 1)⟩,
 ⟨none, some 16, .mv none (.t 6)⟩,
 ⟨none, some 17, .ia (some 5) none (.t 15) (.t 16)⟩,
 ⟨none, some 18, .load (some 5) false (.t 17)⟩,
 ⟨none, some 19, .call [none, none] none 0 124 [(.t 14), (.t 18)]⟩,
 ⟨none, some 20, .buildSl 5 [(.t 19)]⟩,
 ⟨none, some 21, .app 5 88 (.t 13) (.t 20)⟩,
 ⟨none, some 5, .mvS (some 5) (.t 21)⟩]))
  (.reg (.mk [1, 2, 5, 6] [(.par 0), (.loc 2)] []) [⟨none, some 11, .mv none (.t 6)⟩,
 ⟨none, some 12, .bin [] .add (.t 11) (.v (.int .i64 1))⟩,
 ⟨none, some 6, .mvS none (.t 12)⟩]))))))
  (.seq (.reg (.mk [4] [(.par 0)] []) [⟨none, some 22, .mvS (some 5) (.t 5)⟩,
 ⟨none, some 4, .mvS (some 5) (.t 22)⟩])
  .ret))))
theorem k118 {B : Heap} {args : List V} {objs : List Ob} {S : Post} (h : acwp (COk Tryz.prog B) c118 (initSt args objs) (EndP (tabT tab) [.tmp 4] objs.length (mvOf args objs) [] S)) (hn : args.length ≤ Tryz.f118.ntmps := by exact Nat.le_of_ble_eq_true rfl) : CallS Tryz.prog B (mvOf args objs) 118 args objs S :=
  callSB tabOk mixed Tryz.func118 Tryz.call118 (hints [] [([1, 2], [.par 0, .loc 2]), ([], [.par 0]), ([1, 2, 5], [.par 0, .loc 2]), ([], [.par 0]), ([1, 2, 5, 6], [.par 0, .loc 2]), ([], [.par 0]), ([1, 2, 5, 6, 10], [.par 0, .loc 2]), ([1, 2, 5, 6], [.par 0, .loc 2]), ([1, 2, 5, 6], [.par 0, .loc 2]), ([], [.par 0]), ([1, 2, 5, 6], [.par 0, .loc 2]), ([], [.par 0]), ([4], [.par 0]), ([], [.par 0])]) ⟨[4], [], [], []⟩ (by kernel_rfl) rfl rfl (by decide) hn h
end Go.Proofs.YtcdoebbffjejeaaGreatDoor
namespace Go.Proofs.YtcdoebbffjejeaaGreatDoor
open Go.Ax
def c120 : AC :=
  (.seq (.reg (.mk [2, 3, 4] [(.loc 2), (.loc 3), (.loc 4)] []) [⟨none, some 2, .box 5 [(.str []), (.str []), (.own 5 []), (.own 6 []), (.int .i64 0)] (.t 0)⟩,
 ⟨none, some 3, .box 6 [(.int .i64 0), (.str []), (.bool false), (.own 6 []), (.own 5 []), (.int .i64 0)] (.t 1)⟩,
 ⟨none, some 4, .alloc [(.str []), (.str []), (.own 5 []), (.own 6 []), (.int .i64 0)]⟩])
  (.seq (.reg (.mk [2, 4] [(.loc 2), (.loc 4)] []) [⟨none, some 5, .load (some 6) false (.t 3)⟩,
 ⟨none, some 6, .call [none] none 0 141 [(.t 5)]⟩,
 ⟨none, some 7, .buildSl 6 [(.t 6)]⟩,
 ⟨none, some 8, .fa 3 (.t 2)⟩,
 ⟨none, none, .store 1 (some 6) (.t 8) (.t 7)⟩])
  (.seq (.reg (.mk [4] [(.loc 4)] []) [⟨none, some 9, .load (some 5) false (.t 2)⟩,
 ⟨none, none, .store 5 none (.t 4) (.t 9)⟩])
  .ret)))
theorem k120 {B : Heap} {args : List V} {objs : List Ob} {S : Post} (h : acwp (COk Tryz.prog B) c120 (initSt args objs) (EndP (tabT tab) [.cell 4 63] objs.length (mvOf args objs) [] S)) (hn : args.length ≤ Tryz.f120.ntmps := by exact Nat.le_of_ble_eq_true rfl) : CallS Tryz.prog B (mvOf args objs) 120 args objs S :=
  callSB tabOk mixed Tryz.func120 Tryz.call120 (hints [] [([2, 3, 4], [.loc 2, .loc 3, .loc 4]), ([], []), ([2, 4], [.loc 2, .loc 4]), ([], []), ([4], [.loc 4]), ([], [])]) ⟨[4], [], [], []⟩ (by kernel_rfl) rfl rfl (by decide) hn h
def c122 : AC :=
  (.seq (.reg (.mk [2, 3, 4, 5] [(.par 0), (.loc 2), (.loc 3), (.loc 4), (.loc 5)] []) [⟨none, some 2, .box 6 [(.own 9 []), (.str []), (.own 8 []), (.bool false), (.own 6 []), .nilp] (.t 0)⟩,
 ⟨none, some 3, .box 7 [(.str []), (.str []), (.own 6 []), (.own 5 []), (.own 7 []), (.own 7 []), (.int .i64 0)] (.t 1)⟩,
 ⟨none, some 4, .alloc [(.str []), (.str []), (.own 6 []), (.own 5 []), (.own 7 []), (.own 7 []), (.int .i64 0)]⟩,
 ⟨none, some 5, .alloc [(.own 9 []), (.str []), (.own 8 []), (.bool false), (.own 6 []), .nilp]⟩])
  (.seq (.seq (.reg (.mk [2, 3, 4, 5, 13] [(.par 0), (.loc 2), (.loc 3), (.loc 4), (.loc 5)] []) [⟨none, some 9, .load (some 6) false (.t 2)⟩,
 ⟨none, some 10, .fa 1 (.t 3)⟩,
 ⟨none, some 11, .load none false (.t 10)⟩,
 ⟨none, some 12, .call [none, none] none 0 123 [(.t 9), (.t 11)]⟩,
 ⟨none, some 13, .bin [] .geq (.t 12) (.v (.int .i64 0))⟩])
  (.cond (.t 13) (.reg (.mk [2, 3, 4, 5] [(.par 0), (.loc 2), (.loc 3), (.loc 4), (.loc 5)] []) [⟨none, some 14, .load (some 6) false (.t 2)⟩,
 ⟨none, some 15, .fa 6 (.t 3)⟩,
 ⟨none, some 16, .load none false (.t 15)⟩,
 ⟨none, some 17, .call [none, none, none] none 0 85 [(.t 14), (.v (.int .i64 120)), (.t 16)]⟩]) .skip))
  (.seq (.seq (.reg (.mk [2, 3, 4, 5, 21] [(.par 0), (.loc 2), (.loc 3), (.loc 4), (.loc 5)] []) [⟨none, some 18, .fa 2 (.t 3)⟩,
 ⟨none, some 19, .load none false (.t 18)⟩,
 ⟨none, some 20, .lenSl (.t 19)⟩,
 ⟨none, some 21, .bin [] .eql (.t 20) (.v (.int .i64 0))⟩])
  (.cond (.t 21) (.seq (.regD (.mk [2, 3, 4, 5, 6] [(.par 0), (.loc 2), (.loc 3), (.loc 4), (.loc 5), (.loc 6)] []) [(0, 1), (0, 3), (0, 6), (1, 6), (2, 6), (3, 6), (4, 6), (5, 6)] [⟨none, some 22, .load (some 6) false (.t 2)⟩,
 ⟨none, some 23, .fa 3 (.t 3)⟩,
 ⟨none, some 24, .load none false (.t 23)⟩,
 ⟨none, some 25, .ia (some 5) none (.t 24) (.v (.int .i64 0))⟩,
 ⟨none, some 26, .load (some 5) false (.t 25)⟩,
 ⟨none, some 27, .call [none, none] none 0 124 [(.t 22), (.t 26)]⟩,
 ⟨none, some 6, .alloc [(.str []), (.str []), (.own 5 []), (.own 6 []), (.int .i64 0)]⟩,
 ⟨none, none, .store 5 none (.t 6) (.t 27)⟩])
  (.seq (.seq (.reg (.mk [2, 3, 4, 5, 6, 37] [(.par 0), (.loc 2), (.loc 3), (.loc 4), (.loc 5), (.loc 6)] []) [⟨none, some 28, .load (some 5) false (.t 6)⟩,
 ⟨none, some 29, .call [none] none 0 126 [(.t 28)]⟩,
 ⟨none, some 30, .fld none 0 (.t 29)⟩,
 ⟨none, some 31, .bin [] .eql (.t 30) (.v (.int .i64 0))⟩,
 ⟨none, some 32, .mv none (.t 31)⟩,
 ⟨some (32, false), some 33, .load (some 5) false (.t 6)⟩,
 ⟨some (32, false), some 34, .call [none] none 0 126 [(.t 33)]⟩,
 ⟨some (32, false), some 35, .fld none 0 (.t 34)⟩,
 ⟨some (32, false), some 36, .bin [] .eql (.t 35) (.v (.int .i64 5))⟩,
 ⟨none, some 37, .pick (.t 32) (.v (.bool true)) (.t 36)⟩])
  (.cond (.t 37) (.regD (.mk [2, 3, 4, 5, 6] [(.par 0), (.loc 2), (.loc 3), (.loc 4), (.loc 5), (.loc 6)] []) [(0, 1), (0, 3), (0, 4)] [⟨none, some 38, .load (some 6) false (.t 2)⟩,
 ⟨none, some 39, .fa 3 (.t 3)⟩,
 ⟨none, some 40, .load none false (.t 39)⟩,
 ⟨none, some 41, .ia (some 5) none (.t 40) (.v (.int .i64 0))⟩,
 ⟨none, some 42, .fa 4 (.t 41)⟩,
 ⟨none, some 43, .load none false (.t 42)⟩,
 ⟨none, some 44, .call [none, none, none] none 0 85 [(.t 38), (.v (.int .i64 131)), (.t 43)]⟩]) .skip))
  (.seq (.reg (.mk [2, 3, 4, 5, 6] [(.par 0), (.loc 2), (.loc 3), (.loc 4), (.loc 5), (.loc 6)] []) [⟨none, some 45, .load (some 5) false (.t 6)⟩,
 ⟨none, some 46, .buildSl 5 [(.t 45)]⟩,
 ⟨none, some 47, .fa 3 (.t 3)⟩,
 ⟨none, none, .store 1 (some 5) (.t 47) (.t 46)⟩])
  (.seq (.regD (.mk [4, 5] [(.par 0), (.loc 4), (.loc 5)] []) [(0, 2), (1, 2), (2, 4), (0, 5), (1, 5), (2, 5), (3, 5), (0, 6)] [⟨none, some 48, .load (some 7) false (.t 3)⟩,
 ⟨none, some 49, .load (some 6) false (.t 2)⟩,
 ⟨none, some 50, .fa 1 (.t 3)⟩,
 ⟨none, some 51, .load none false (.t 50)⟩,
 ⟨none, some 52, .load (some 5) false (.t 6)⟩,
 ⟨none, some 53, .call [none] none 0 126 [(.t 52)]⟩,
 ⟨none, some 54, .call [none, none, none, none] none 0 115 [(.t 49), (.t 51), (.t 53), (.v (.bool false))]⟩,
 ⟨none, none, .store 7 none (.t 4) (.t 48)⟩,
 ⟨none, none, .store 6 none (.t 5) (.t 54)⟩])
  .ret)))) .skip))
  (.seq (.regD (.mk [2, 3, 4, 5] [(.par 0), (.loc 2), (.loc 3), (.loc 4), (.loc 5)] []) [(0, 1), (0, 3)] [⟨none, some 55, .load (some 6) false (.t 2)⟩,
 ⟨none, some 56, .fa 2 (.t 3)⟩,
 ⟨none, some 57, .load none false (.t 56)⟩,
 ⟨none, some 58, .ia (some 6) none (.t 57) (.v (.int .i64 0))⟩,
 ⟨none, some 59, .load (some 6) false (.t 58)⟩,
 ⟨none, some 60, .call [none, none] none 0 143 [(.t 55), (.t 59)]⟩])
  (.seq (.reg (.mk [2, 3, 4, 5, 7] [(.par 0), (.loc 2), (.loc 3), (.loc 4), (.loc 5), (.loc 7)] []) [⟨none, some 61, .load (some 6) false (.t 2)⟩,
 ⟨none, some 7, .alloc [(.own 9 []), (.str []), (.own 8 []), (.bool false), (.own 6 []), .nilp]⟩,
 ⟨none, none, .store 6 none (.t 7) (.t 61)⟩])
  (.seq (.reg (.mk [2, 3, 4, 5, 7] [(.par 0), (.loc 2), (.loc 3), (.loc 4), (.loc 5), (.loc 7)] []) [⟨none, some 62, .fa 2 (.t 7)⟩,
 ⟨none, none, .store 1 (some 8) (.t 62) (.v .nils)⟩])
  (.seq (.seq (.reg (.mk [2, 3, 4, 5, 7, 8] [(.par 0), (.loc 2), (.loc 3), (.loc 4), (.loc 5), (.loc 7)] []) [⟨none, some 8, .mvS none (.v (.int .i64 0))⟩])
  (.block 0 (.loop (.mk [2, 3, 4, 5, 7, 8] [(.par 0), (.loc 2), (.loc 3), (.loc 4), (.loc 5), (.loc 7)] []) (.seq (.seq (.reg (.mk [2, 3, 4, 5, 7, 8, 67] [(.par 0), (.loc 2), (.loc 3), (.loc 4), (.loc 5), (.loc 7)] []) [⟨none, some 63, .mv none (.t 8)⟩,
 ⟨none, some 64, .fa 2 (.t 2)⟩,
 ⟨none, some 65, .load none false (.t 64)⟩,
 ⟨none, some 66, .lenSl (.t 65)⟩,
 ⟨none, some 67, .bin [] .lss (.t 63) (.t 66)⟩])
  (.cond (.t 67) .skip (.exit 0)))
  (.seq (.block 1 (.seq (.reg (.mk [2, 3, 4, 5, 7, 8, 75] [(.par 0), (.loc 2), (.loc 3), (.loc 4), (.loc 5), (.loc 7)] []) [⟨none, some 70, .fa 2 (.t 2)⟩,
 ⟨none, some 71, .load none false (.t 70)⟩,
 ⟨none, some 72, .mv none (.t 8)⟩,
 ⟨none, some 73, .ia (some 8) none (.t 71) (.t 72)⟩,
 ⟨none, some 74, .fa 7 (.t 73)⟩,
 ⟨none, some 75, .load none false (.t 74)⟩])
  (.cond (.t 75) (.regD (.mk [2, 3, 4, 5, 7, 8] [(.par 0), (.loc 2), (.loc 3), (.loc 4), (.loc 5), (.loc 7)] []) [(0, 2), (1, 2), (0, 3), (0, 4), (1, 4), (2, 4), (3, 4), (0, 5), (1, 5), (0, 6), (0, 7), (1, 7)] [⟨none, some 76, .fa 2 (.t 7)⟩,
 ⟨none, some 77, .load none true (.t 76)⟩,
 ⟨none, some 78, .fa 2 (.t 2)⟩,
 ⟨none, some 79, .load none false (.t 78)⟩,
 ⟨none, some 80, .mv none (.t 8)⟩,
 ⟨none, some 81, .ia (some 8) none (.t 79) (.t 80)⟩,
 ⟨none, some 82, .load (some 8) false (.t 81)⟩,
 ⟨none, some 83, .buildSl 8 [(.t 82)]⟩,
 ⟨none, some 84, .app 8 112 (.t 77) (.t 83)⟩,
 ⟨none, some 85, .fa 2 (.t 7)⟩,
 ⟨none, none, .store 1 (some 8) (.t 85) (.t 84)⟩]) .skip)))
  (.reg (.mk [2, 3, 4, 5, 7, 8] [(.par 0), (.loc 2), (.loc 3), (.loc 4), (.loc 5), (.loc 7)] []) [⟨none, some 68, .mv none (.t 8)⟩,
 ⟨none, some 69, .bin [] .add (.t 68) (.v (.int .i64 1))⟩,
 ⟨none, some 8, .mvS none (.t 69)⟩]))))))
  (.seq (.regD (.mk [2, 3, 4, 5] [(.par 0), (.loc 2), (.loc 3), (.loc 4), (.loc 5)] []) [(0, 1), (0, 3)] [⟨none, some 86, .load (some 6) false (.t 7)⟩,
 ⟨none, some 87, .fa 2 (.t 3)⟩,
 ⟨none, some 88, .load none false (.t 87)⟩,
 ⟨none, some 89, .ia (some 6) none (.t 88) (.v (.int .i64 0))⟩,
 ⟨none, some 90, .load (some 6) false (.t 89)⟩,
 ⟨none, some 91, .call [none, none] none 0 83 [(.t 86), (.t 90)]⟩,
 ⟨none, some 92, .buildSl 6 [(.t 91)]⟩,
 ⟨none, some 93, .fa 2 (.t 3)⟩,
 ⟨none, none, .store 1 (some 6) (.t 93) (.t 92)⟩])
  (.seq (.regD (.mk [2, 3, 4, 5] [(.par 0), (.loc 2), (.loc 3), (.loc 4), (.loc 5)] []) [(0, 1), (0, 3), (0, 5), (1, 5), (2, 5), (3, 5), (4, 5), (1, 6), (3, 6), (0, 7), (1, 7), (2, 7), (3, 7), (4, 7), (1, 8), (3, 8)] [⟨none, some 94, .load (some 6) false (.t 2)⟩,
 ⟨none, some 95, .fa 3 (.t 3)⟩,
 ⟨none, some 96, .load none false (.t 95)⟩,
 ⟨none, some 97, .ia (some 5) none (.t 96) (.v (.int .i64 0))⟩,
 ⟨none, some 98, .load (some 5) false (.t 97)⟩,
 ⟨none, some 99, .fa 2 (.t 3)⟩,
 ⟨none, some 100, .load none false (.t 99)⟩,
 ⟨none, some 101, .ia (some 6) none (.t 100) (.v (.int .i64 0))⟩,
 ⟨none, some 102, .load (some 6) false (.t 101)⟩,
 ⟨none, some 103, .call [none, none, none] none 0 116 [(.t 94), (.t 98), (.t 102)]⟩,
 ⟨none, some 104, .buildSl 5 [(.t 103)]⟩,
 ⟨none, some 105, .fa 3 (.t 3)⟩,
 ⟨none, none, .store 1 (some 5) (.t 105) (.t 104)⟩])
  (.seq (.regD (.mk [4, 5] [(.par 0), (.loc 4), (.loc 5)] []) [(0, 2), (1, 2), (0, 4), (1, 4), (2, 4), (3, 4), (2, 5), (0, 6), (1, 6), (2, 6), (3, 6), (2, 7), (0, 8)] [⟨none, some 106, .load (some 7) false (.t 3)⟩,
 ⟨none, some 107, .load (some 6) false (.t 2)⟩,
 ⟨none, some 108, .fa 1 (.t 3)⟩,
 ⟨none, some 109, .load none false (.t 108)⟩,
 ⟨none, some 110, .fa 2 (.t 3)⟩,
 ⟨none, some 111, .load none false (.t 110)⟩,
 ⟨none, some 112, .ia (some 6) none (.t 111) (.v (.int .i64 0))⟩,
 ⟨none, some 113, .load (some 6) false (.t 112)⟩,
 ⟨none, some 114, .call [none, none, none, none] none 0 115 [(.t 107), (.t 109), (.t 113), (.v (.bool false))]⟩,
 ⟨none, none, .store 7 none (.t 4) (.t 106)⟩,
 ⟨none, none, .store 6 none (.t 5) (.t 114)⟩])
  .ret))))))))))
theorem k122 {B : Heap} {args : List V} {objs : List Ob} {S : Post} (h : acwp (COk Tryz.prog B) c122 (initSt args objs) (EndP (tabT tab) [.cell 4 103, .cell 5 132] objs.length (mvOf args objs) [] S)) (hn : args.length ≤ Tryz.f122.ntmps := by exact Nat.le_of_ble_eq_true rfl) : CallS Tryz.prog B (mvOf args objs) 122 args objs S :=
  callSB tabOk mixed Tryz.func122 Tryz.call122 (hints [] [([2, 3, 4, 5], [.par 0, .loc 2, .loc 3, .loc 4, .loc 5]), ([], [.par 0]), ([2, 3, 4, 5, 13], [.par 0, .loc 2, .loc 3, .loc 4, .loc 5]), ([], [.par 0]), ([2, 3, 4, 5], [.par 0, .loc 2, .loc 3, .loc 4, .loc 5]), ([], [.par 0]), ([2, 3, 4, 5, 21], [.par 0, .loc 2, .loc 3, .loc 4, .loc 5]), ([], [.par 0]), ([2, 3, 4, 5, 6], [.par 0, .loc 2, .loc 3, .loc 4, .loc 5, .loc 6]), ([], [.par 0]), ([2, 3, 4, 5, 6, 37], [.par 0, .loc 2, .loc 3, .loc 4, .loc 5, .loc 6]), ([], [.par 0]), ([2, 3, 4, 5, 6], [.par 0, .loc 2, .loc 3, .loc 4, .loc 5, .loc 6]), ([], [.par 0]), ([2, 3, 4, 5, 6], [.par 0, .loc 2, .loc 3, .loc 4, .loc 5, .loc 6]), ([], [.par 0]), ([4, 5], [.par 0, .loc 4, .loc 5]), ([], [.par 0]), ([2, 3, 4, 5], [.par 0, .loc 2, .loc 3, .loc 4, .loc 5]), ([], [.par 0]), ([2, 3, 4, 5, 7], [.par 0, .loc 2, .loc 3, .loc 4, .loc 5, .loc 7]), ([], [.par 0]), ([2, 3, 4, 5, 7], [.par 0, .loc 2, .loc 3, .loc 4, .loc 5, .loc 7]), ([], [.par 0]), ([2, 3, 4, 5, 7, 8], [.par 0, .loc 2, .loc 3, .loc 4, .loc 5, .loc 7]), ([], [.par 0]), ([2, 3, 4, 5, 7, 8, 67], [.par 0, .loc 2, .loc 3, .loc 4, .loc 5, .loc 7]), ([2, 3, 4, 5, 7, 8], [.par 0, .loc 2, .loc 3, .loc 4, .loc 5, .loc 7]), ([2, 3, 4, 5, 7, 8], [.par 0, .loc 2, .loc 3, .loc 4, .loc 5, .loc 7]), ([], [.par 0]), ([2, 3, 4, 5, 7, 8, 75], [.par 0, .loc 2, .loc 3, .loc 4, .loc 5, .loc 7]), ([], [.par 0]), ([2, 3, 4, 5, 7, 8], [.par 0, .loc 2, .loc 3, .loc 4, .loc 5, .loc 7]), ([], [.par 0]), ([2, 3, 4, 5], [.par 0, .loc 2, .loc 3, .loc 4, .loc 5]), ([], [.par 0]), ([2, 3, 4, 5], [.par 0, .loc 2, .loc 3, .loc 4, .loc 5]), ([], [.par 0]), ([4, 5], [.par 0, .loc 4, .loc 5]), ([], [.par 0])]) ⟨[4, 5], [], [], []⟩ (by kernel_rfl) rfl rfl (by decide) hn h
def c123 : AC :=
  (.seq (.reg (.mk [1, 2] [(.par 0), (.loc 2)] []) [⟨none, some 2, .box 6 [(.own 9 []), (.str []), (.own 8 []), (.bool false), (.own 6 []), .nilp] (.t 0)⟩,
 ⟨none, some 4, .mvS none (.v (.int .i64 0))⟩])
  (.seq (.seq (.reg (.mk [1, 2, 5] [(.par 0), (.loc 2)] []) [⟨none, some 6, .fa 2 (.t 2)⟩,
 ⟨none, some 7, .load none false (.t 6)⟩,
 ⟨none, some 8, .lenSl (.t 7)⟩,
 ⟨none, some 9, .bin [] .sub (.t 8) (.v (.int .i64 1))⟩,
 ⟨none, some 5, .mvS none (.t 9)⟩])
  (.block 0 (.loop (.mk [1, 2, 5] [(.par 0), (.loc 2)] []) (.seq (.seq (.reg (.mk [1, 2, 5, 11] [(.par 0), (.loc 2)] []) [⟨none, some 10, .mv none (.t 5)⟩,
 ⟨none, some 11, .bin [] .geq (.t 10) (.v (.int .i64 0))⟩])
  (.cond (.t 11) .skip (.exit 0)))
  (.seq (.block 1 (.seq (.reg (.mk [1, 2, 5, 21] [(.par 0), (.loc 2)] []) [⟨none, some 14, .fa 2 (.t 2)⟩,
 ⟨none, some 15, .load none false (.t 14)⟩,
 ⟨none, some 16, .mv none (.t 5)⟩,
 ⟨none, some 17, .ia (some 8) none (.t 15) (.t 16)⟩,
 ⟨none, some 18, .fa 0 (.t 17)⟩,
 ⟨none, some 19, .load none false (.t 18)⟩,
 ⟨none, some 20, .mv none (.t 1)⟩,
 ⟨none, some 21, .bin [] .eql (.t 19) (.t 20)⟩])
  (.cond (.t 21) (.seq (.reg (.mk [4] [(.par 0)] []) [⟨none, some 22, .mvS none (.t 5)⟩,
 ⟨none, some 4, .mvS none (.t 22)⟩])
  .ret) .skip)))
  (.reg (.mk [1, 2, 5] [(.par 0), (.loc 2)] []) [⟨none, some 12, .mv none (.t 5)⟩,
 ⟨none, some 13, .bin [] .sub (.t 12) (.v (.int .i64 1))⟩,
 ⟨none, some 5, .mvS none (.t 13)⟩]))))))
  (.seq (.reg (.mk [4] [(.par 0)] []) [⟨none, some 4, .mvS none (.v (.int .i64 (-1)))⟩])
  .ret)))
theorem k123 {B : Heap} {args : List V} {objs : List Ob} {S : Post} (h : acwp (COk Tryz.prog B) c123 (initSt args objs) (EndP (tabT tab) [.tmp 4] objs.length (mvOf args objs) [] S)) (hn : args.length ≤ Tryz.f123.ntmps := by exact Nat.le_of_ble_eq_true rfl) : CallS Tryz.prog B (mvOf args objs) 123 args objs S :=
  callSB tabOk mixed Tryz.func123 Tryz.call123 (hints [] [([1, 2], [.par 0, .loc 2]), ([], [.par 0]), ([1, 2, 5], [.par 0, .loc 2]), ([], [.par 0]), ([1, 2, 5, 11], [.par 0, .loc 2]), ([1, 2, 5], [.par 0, .loc 2]), ([1, 2, 5], [.par 0, .loc 2]), ([], [.par 0]), ([1, 2, 5, 21], [.par 0, .loc 2]), ([], [.par 0]), ([4], [.par 0]), ([], [.par 0]), ([4], [.par 0]), ([], [.par 0])]) ⟨[4], [], [], []⟩ (by kernel_rfl) rfl rfl (by decide) hn h
def c124 : AC :=
  (.seq (.reg (.mk [2, 3, 4] [(.par 0), (.loc 2), (.loc 3), (.loc 4)] []) [⟨none, some 2, .box 6 [(.own 9 []), (.str []), (.own 8 []), (.bool false), (.own 6 []), .nilp] (.t 0)⟩,
 ⟨none, some 3, .box 5 [(.str []), (.str []), (.own 5 []), (.own 6 []), (.int .i64 0)] (.t 1)⟩,
 ⟨none, some 4, .alloc [(.str []), (.str []), (.own 5 []), (.own 6 []), (.int .i64 0)]⟩])
  (.seq (.seq (.reg (.mk [2, 3, 4, 14] [(.par 0), (.loc 2), (.loc 3), (.loc 4)] []) [⟨none, some 9, .fa 5 (.t 2)⟩,
 ⟨none, some 10, .load none false (.t 9)⟩,
 ⟨none, some 11, .nilc (.t 10)⟩,
 ⟨none, some 12, .fa 0 (.t 11)⟩,
 ⟨none, some 13, .load none false (.t 12)⟩,
 ⟨none, some 14, .bin [] .neq (.t 13) (.v (.int .i64 0))⟩])
  (.cond (.t 14) (.seq (.reg (.mk [4] [(.par 0), (.loc 4)] []) [⟨none, some 15, .load (some 5) false (.t 3)⟩,
 ⟨none, none, .store 5 none (.t 4) (.t 15)⟩])
  .ret) .skip))
  (.seq (.seq (.reg (.mk [2, 3, 4, 32] [(.par 0), (.loc 2), (.loc 3), (.loc 4)] []) [⟨none, some 16, .fa 3 (.t 2)⟩,
 ⟨none, some 17, .load none false (.t 16)⟩,
 ⟨none, some 18, .mv none (.t 17)⟩,
 ⟨some (18, true), some 19, .fa 0 (.t 3)⟩,
 ⟨some (18, true), some 20, .load none false (.t 19)⟩,
 ⟨some (18, true), some 21, .call [none] none 0 144 [(.t 20)]⟩,
 ⟨none, some 22, .pick (.t 18) (.t 21) (.v (.bool false))⟩,
 ⟨none, some 23, .mv none (.t 22)⟩,
 ⟨some (23, false), some 24, .fa 3 (.t 2)⟩,
 ⟨some (23, false), some 25, .load none false (.t 24)⟩,
 ⟨some (23, false), some 26, .un .not (.t 25)⟩,
 ⟨some (23, false), some 27, .mv none (.t 26)⟩,
 ⟨some (27, true), some 28, .fa 0 (.t 3)⟩,
 ⟨some (27, true), some 29, .load none false (.t 28)⟩,
 ⟨some (27, true), some 30, .bin [] .eql (.t 29) (.v (.str [61, 62]))⟩,
 ⟨some (23, false), some 31, .pick (.t 27) (.t 30) (.v (.bool false))⟩,
 ⟨none, some 32, .pick (.t 23) (.v (.bool true)) (.t 31)⟩])
  (.cond (.t 32) (.seq (.reg (.mk [3, 4] [(.par 0), (.loc 3), (.loc 4)] []) [⟨none, some 33, .load (some 6) false (.t 2)⟩,
 ⟨none, some 34, .fa 4 (.t 3)⟩,
 ⟨none, some 35, .load none false (.t 34)⟩,
 ⟨none, some 36, .call [none, none, none] none 0 85 [(.t 33), (.v (.int .i64 138)), (.t 35)]⟩])
  (.seq (.reg (.mk [4] [(.par 0), (.loc 4)] []) [⟨none, some 37, .load (some 5) false (.t 3)⟩,
 ⟨none, none, .store 5 none (.t 4) (.t 37)⟩])
  .ret)) .skip))
  (.seq (.seq (.reg (.mk [2, 3, 4, 39] [(.par 0), (.loc 2), (.loc 3), (.loc 4)] []) [⟨none, some 38, .fa 0 (.t 3)⟩,
 ⟨none, some 39, .load none false (.t 38)⟩])
  (.block 0 (.seq (.seq (.reg (.mk [2, 3, 4, 39, 40] [(.par 0), (.loc 2), (.loc 3), (.loc 4)] []) [⟨none, some 41, .bin [] .eql (.t 39) (.v (.str [110, 117, 109]))⟩,
 ⟨none, some 40, .mvS none (.t 41)⟩])
  (.cond (.t 40) .skip (.reg (.mk [2, 3, 4, 39, 40] [(.par 0), (.loc 2), (.loc 3), (.loc 4)] []) [⟨none, some 42, .bin [] .eql (.t 39) (.v (.str [114, 101, 97, 100]))⟩,
 ⟨none, some 40, .mvS none (.t 42)⟩])))
  (.cond (.t 40) (.seq (.reg (.mk [4] [(.par 0), (.loc 4)] []) [⟨none, some 43, .load (some 5) false (.t 3)⟩,
 ⟨none, some 44, .build [(0, 1), (1, 1), (2, 1), (3, 1), (4, 1), (5, 1)] [(.int .i64 0), (.str []), (.bool false), (.own 6 []), (.own 5 []), (.int .i64 0)] [0] [(.v (.int .i64 1))]⟩,
 ⟨none, some 45, .call [none, none] none 0 120 [(.t 43), (.t 44)]⟩,
 ⟨none, none, .store 5 none (.t 4) (.t 45)⟩])
  .ret) (.seq (.seq (.reg (.mk [2, 3, 4, 39, 46] [(.par 0), (.loc 2), (.loc 3), (.loc 4)] []) [⟨none, some 47, .bin [] .eql (.t 39) (.v (.str [116, 114, 117, 101]))⟩,
 ⟨none, some 46, .mvS none (.t 47)⟩])
  (.cond (.t 46) .skip (.reg (.mk [2, 3, 4, 39, 46] [(.par 0), (.loc 2), (.loc 3), (.loc 4)] []) [⟨none, some 48, .bin [] .eql (.t 39) (.v (.str [102, 97, 108, 115, 101]))⟩,
 ⟨none, some 46, .mvS none (.t 48)⟩])))
  (.cond (.t 46) (.seq (.reg (.mk [4] [(.par 0), (.loc 4)] []) [⟨none, some 49, .load (some 5) false (.t 3)⟩,
 ⟨none, some 50, .build [(0, 1), (1, 1), (2, 1), (3, 1), (4, 1), (5, 1)] [(.int .i64 0), (.str []), (.bool false), (.own 6 []), (.own 5 []), (.int .i64 0)] [0] [(.v (.int .i64 2))]⟩,
 ⟨none, some 51, .call [none, none] none 0 120 [(.t 49), (.t 50)]⟩,
 ⟨none, none, .store 5 none (.t 4) (.t 51)⟩])
  .ret) (.seq (.reg (.mk [2, 3, 4, 39, 52] [(.par 0), (.loc 2), (.loc 3), (.loc 4)] []) [⟨none, some 53, .bin [] .eql (.t 39) (.v (.str [110, 117, 108, 108]))⟩,
 ⟨none, some 52, .mvS none (.t 53)⟩])
  (.cond (.t 52) (.seq (.reg (.mk [4] [(.par 0), (.loc 4)] []) [⟨none, some 54, .load (some 5) false (.t 3)⟩,
 ⟨none, some 55, .build [(0, 1), (1, 1), (2, 1), (3, 1), (4, 1), (5, 1)] [(.int .i64 0), (.str []), (.bool false), (.own 6 []), (.own 5 []), (.int .i64 0)] [0] [(.v (.int .i64 5))]⟩,
 ⟨none, some 56, .call [none, none] none 0 120 [(.t 54), (.t 55)]⟩,
 ⟨none, none, .store 5 none (.t 4) (.t 56)⟩])
  .ret) (.seq (.reg (.mk [2, 3, 4, 39, 57] [(.par 0), (.loc 2), (.loc 3), (.loc 4)] []) [⟨none, some 58, .bin [] .eql (.t 39) (.v (.str [116, 104, 105, 115]))⟩,
 ⟨none, some 57, .mvS none (.t 58)⟩])
  (.cond (.t 57) (.seq (.seq (.reg (.mk [2, 3, 4, 61] [(.par 0), (.loc 2), (.loc 3), (.loc 4)] []) [⟨none, some 59, .fa 1 (.t 2)⟩,
 ⟨none, some 60, .load none false (.t 59)⟩,
 ⟨none, some 61, .bin [] .eql (.t 60) (.v (.str []))⟩])
  (.cond (.t 61) (.reg (.mk [2, 3, 4] [(.par 0), (.loc 2), (.loc 3), (.loc 4)] []) [⟨none, some 62, .load (some 6) false (.t 2)⟩,
 ⟨none, some 63, .fa 4 (.t 3)⟩,
 ⟨none, some 64, .load none false (.t 63)⟩,
 ⟨none, some 65, .call [none, none, none] none 0 85 [(.t 62), (.v (.int .i64 135)), (.t 64)]⟩]) .skip))
  (.seq (.reg (.mk [4] [(.par 0), (.loc 4)] []) [⟨none, some 66, .load (some 5) false (.t 3)⟩,
 ⟨none, some 67, .fa 1 (.t 2)⟩,
 ⟨none, some 68, .load none false (.t 67)⟩,
 ⟨none, some 69, .build [(0, 1), (1, 1), (2, 1), (3, 1), (4, 1), (5, 1)] [(.int .i64 0), (.str []), (.bool false), (.own 6 []), (.own 5 []), (.int .i64 0)] [0, 1] [(.v (.int .i64 3)), (.t 68)]⟩,
 ⟨none, some 70, .call [none, none] none 0 120 [(.t 66), (.t 69)]⟩,
 ⟨none, none, .store 5 none (.t 4) (.t 70)⟩])
  .ret)) (.seq (.reg (.mk [2, 3, 4, 39, 71] [(.par 0), (.loc 2), (.loc 3), (.loc 4)] []) [⟨none, some 72, .bin [] .eql (.t 39) (.v (.str [118, 97, 114]))⟩,
 ⟨none, some 71, .mvS none (.t 72)⟩])
  (.cond (.t 71) (.seq (.reg (.mk [2, 3, 4, 5] [(.par 0), (.loc 2), (.loc 3), (.loc 4)] []) [⟨none, some 73, .load (some 6) false (.t 2)⟩,
 ⟨none, some 74, .fa 1 (.t 3)⟩,
 ⟨none, some 75, .load none false (.t 74)⟩,
 ⟨none, some 76, .call [none, none] none 0 123 [(.t 73), (.t 75)]⟩,
 ⟨none, some 5, .mvS none (.t 76)⟩])
  (.seq (.seq (.reg (.mk [2, 3, 4, 5, 78] [(.par 0), (.loc 2), (.loc 3), (.loc 4)] []) [⟨none, some 77, .mv none (.t 5)⟩,
 ⟨none, some 78, .bin [] .lss (.t 77) (.v (.int .i64 0))⟩])
  (.cond (.t 78) (.seq (.reg (.mk [3, 4] [(.par 0), (.loc 3), (.loc 4)] []) [⟨none, some 79, .load (some 6) false (.t 2)⟩,
 ⟨none, some 80, .fa 4 (.t 3)⟩,
 ⟨none, some 81, .load none false (.t 80)⟩,
 ⟨none, some 82, .call [none, none, none] none 0 85 [(.t 79), (.v (.int .i64 130)), (.t 81)]⟩])
  (.seq (.reg (.mk [4] [(.par 0), (.loc 4)] []) [⟨none, some 83, .load (some 5) false (.t 3)⟩,
 ⟨none, none, .store 5 none (.t 4) (.t 83)⟩])
  .ret)) .skip))
  (.seq (.regD (.mk [4] [(.par 0), (.loc 4)] []) [(0, 1), (0, 3), (1, 3), (2, 3), (0, 4), (0, 5)] [⟨none, some 84, .load (some 5) false (.t 3)⟩,
 ⟨none, some 85, .fa 2 (.t 2)⟩,
 ⟨none, some 86, .load none false (.t 85)⟩,
 ⟨none, some 87, .mv none (.t 5)⟩,
 ⟨none, some 88, .ia (some 8) none (.t 86) (.t 87)⟩,
 ⟨none, some 89, .fa 1 (.t 88)⟩,
 ⟨none, some 90, .load (some 6) false (.t 89)⟩,
 ⟨none, some 91, .call [none, none] none 0 120 [(.t 84), (.t 90)]⟩,
 ⟨none, none, .store 5 none (.t 4) (.t 91)⟩])
  .ret))) (.seq (.reg (.mk [2, 3, 4, 39, 92] [(.par 0), (.loc 2), (.loc 3), (.loc 4)] []) [⟨none, some 93, .bin [] .eql (.t 39) (.v (.str [110, 101, 119]))⟩,
 ⟨none, some 92, .mvS none (.t 93)⟩])
  (.cond (.t 92) (.seq (.reg (.mk [4] [(.par 0), (.loc 4)] []) [⟨none, some 94, .load (some 6) false (.t 2)⟩,
 ⟨none, some 95, .load (some 5) false (.t 3)⟩,
 ⟨none, some 96, .call [none, none] none 0 145 [(.t 94), (.t 95)]⟩,
 ⟨none, none, .store 5 none (.t 4) (.t 96)⟩])
  .ret) (.seq (.reg (.mk [2, 3, 4, 39, 97] [(.par 0), (.loc 2), (.loc 3), (.loc 4)] []) [⟨none, some 98, .bin [] .eql (.t 39) (.v (.str [108, 105, 115, 116]))⟩,
 ⟨none, some 97, .mvS none (.t 98)⟩])
  (.cond (.t 97) (.seq (.reg (.mk [4] [(.par 0), (.loc 4)] []) [⟨none, some 99, .load (some 6) false (.t 2)⟩,
 ⟨none, some 100, .load (some 5) false (.t 3)⟩,
 ⟨none, some 101, .call [none, none] none 0 146 [(.t 99), (.t 100)]⟩,
 ⟨none, none, .store 5 none (.t 4) (.t 101)⟩])
  .ret) (.seq (.reg (.mk [2, 3, 4, 102] [(.par 0), (.loc 2), (.loc 3), (.loc 4)] []) [⟨none, some 103, .bin [] .eql (.t 39) (.v (.str [99, 97, 108, 108]))⟩,
 ⟨none, some 102, .mvS none (.t 103)⟩])
  (.cond (.t 102) (.seq (.reg (.mk [4] [(.par 0), (.loc 4)] []) [⟨none, some 104, .load (some 6) false (.t 2)⟩,
 ⟨none, some 105, .load (some 5) false (.t 3)⟩,
 ⟨none, some 106, .call [none, none] none 0 147 [(.t 104), (.t 105)]⟩,
 ⟨none, none, .store 5 none (.t 4) (.t 106)⟩])
  .ret) .skip))))))))))))))))))
  (.seq (.reg (.mk [2, 3, 4] [(.par 0), (.loc 2), (.loc 3), (.loc 4)] []) [⟨none, some 107, .load (some 6) false (.t 2)⟩,
 ⟨none, some 108, .fa 2 (.t 3)⟩,
 ⟨none, some 109, .load none false (.t 108)⟩,
 ⟨none, some 110, .call [none, (some 5)] none 0 118 [(.t 107), (.t 109)]⟩,
 ⟨none, some 111, .fa 2 (.t 3)⟩,
 ⟨none, none, .store 1 (some 5) (.t 111) (.t 110)⟩])
  (.seq (.seq (.reg (.mk [2, 3, 4, 117] [(.par 0), (.loc 2), (.loc 3), (.loc 4)] []) [⟨none, some 112, .fa 5 (.t 2)⟩,
 ⟨none, some 113, .load none false (.t 112)⟩,
 ⟨none, some 114, .nilc (.t 113)⟩,
 ⟨none, some 115, .fa 0 (.t 114)⟩,
 ⟨none, some 116, .load none false (.t 115)⟩,
 ⟨none, some 117, .bin [] .neq (.t 116) (.v (.int .i64 0))⟩])
  (.cond (.t 117) (.seq (.reg (.mk [4] [(.par 0), (.loc 4)] []) [⟨none, some 118, .load (some 5) false (.t 3)⟩,
 ⟨none, none, .store 5 none (.t 4) (.t 118)⟩])
  .ret) .skip))
  (.seq (.seq (.reg (.mk [2, 3, 4, 120] [(.par 0), (.loc 2), (.loc 3), (.loc 4)] []) [⟨none, some 119, .fa 0 (.t 3)⟩,
 ⟨none, some 120, .load none false (.t 119)⟩])
  (.block 1 (.seq (.reg (.mk [2, 3, 4, 120, 121] [(.par 0), (.loc 2), (.loc 3), (.loc 4)] []) [⟨none, some 122, .bin [] .eql (.t 120) (.v (.str [102, 105, 101, 108, 100]))⟩,
 ⟨none, some 121, .mvS none (.t 122)⟩])
  (.cond (.t 121) (.seq (.regD (.mk [2, 3, 4, 6, 7] [(.par 0), (.loc 2), (.loc 3), (.loc 4), (.loc 6)] []) [(0, 1), (0, 3), (0, 5), (1, 5), (2, 5), (3, 5), (4, 5), (1, 6), (3, 6), (0, 7), (1, 7), (2, 7), (3, 7), (4, 7), (5, 7), (6, 7), (1, 8), (3, 8), (5, 8), (11, 12), (0, 13), (1, 13), (2, 13), (3, 13), (4, 13), (5, 13), (6, 13), (7, 13), (8, 13), (9, 13), (10, 13), (11, 13), (12, 13), (12, 14)] [⟨none, some 124, .load (some 6) false (.t 2)⟩,
 ⟨none, some 125, .fa 2 (.t 3)⟩,
 ⟨none, some 126, .load none false (.t 125)⟩,
 ⟨none, some 127, .ia (some 5) none (.t 126) (.v (.int .i64 0))⟩,
 ⟨none, some 128, .load (some 5) false (.t 127)⟩,
 ⟨none, some 129, .fa 1 (.t 3)⟩,
 ⟨none, some 130, .load none false (.t 129)⟩,
 ⟨none, some 131, .fa 4 (.t 3)⟩,
 ⟨none, some 132, .load none false (.t 131)⟩,
 ⟨none, some 133, .call [none, none, none, none] none 0 125 [(.t 124), (.t 128), (.t 130), (.t 132)]⟩,
 ⟨none, some 123, .mv none (.t 133)⟩,
 ⟨none, some 134, .ext (.t 123) 0⟩,
 ⟨none, some 135, .ext (.t 123) 1⟩,
 ⟨none, some 6, .alloc [(.str []), (.int .i64 0), (.str []), (.bool false), (.own 6 []), (.own 5 []), (.int .i64 0), (.bool false), (.int .i64 0)]⟩,
 ⟨none, none, .store 9 none (.t 6) (.t 134)⟩,
 ⟨none, some 7, .mvS none (.t 135)⟩])
  (.seq (.seq (.reg (.mk [2, 3, 4, 6, 145] [(.par 0), (.loc 2), (.loc 3), (.loc 4), (.loc 6)] []) [⟨none, some 136, .mv none (.t 7)⟩,
 ⟨none, some 137, .mv none (.t 136)⟩,
 ⟨some (137, true), some 138, .fa 3 (.t 2)⟩,
 ⟨some (137, true), some 139, .load none false (.t 138)⟩,
 ⟨none, some 140, .pick (.t 137) (.t 139) (.v (.bool false))⟩,
 ⟨none, some 141, .mv none (.t 140)⟩,
 ⟨some (141, true), some 142, .fa 7 (.t 6)⟩,
 ⟨some (141, true), some 143, .load none false (.t 142)⟩,
 ⟨some (141, true), some 144, .un .not (.t 143)⟩,
 ⟨none, some 145, .pick (.t 141) (.t 144) (.v (.bool false))⟩])
  (.cond (.t 145) (.reg (.mk [3, 4, 6] [(.par 0), (.loc 3), (.loc 4), (.loc 6)] []) [⟨none, some 146, .load (some 6) false (.t 2)⟩,
 ⟨none, some 147, .fa 4 (.t 3)⟩,
 ⟨none, some 148, .load none false (.t 147)⟩,
 ⟨none, some 149, .call [none, none, none] none 0 85 [(.t 146), (.v (.int .i64 138)), (.t 148)]⟩]) .skip))
  (.seq (.reg (.mk [4] [(.par 0), (.loc 4)] []) [⟨none, some 150, .load (some 5) false (.t 3)⟩,
 ⟨none, some 151, .fa 1 (.t 6)⟩,
 ⟨none, some 152, .load (some 6) false (.t 151)⟩,
 ⟨none, some 153, .call [none, none] none 0 120 [(.t 150), (.t 152)]⟩,
 ⟨none, none, .store 5 none (.t 4) (.t 153)⟩])
  .ret))) (.seq (.reg (.mk [2, 3, 4, 120, 154] [(.par 0), (.loc 2), (.loc 3), (.loc 4)] []) [⟨none, some 155, .bin [] .eql (.t 120) (.v (.str [105, 110, 100, 101, 120]))⟩,
 ⟨none, some 154, .mvS none (.t 155)⟩])
  (.cond (.t 154) (.seq (.reg (.mk [2, 3, 4, 8] [(.par 0), (.loc 2), (.loc 3), (.loc 4), (.loc 8)] []) [⟨none, some 156, .fa 2 (.t 3)⟩,
 ⟨none, some 157, .load none false (.t 156)⟩,
 ⟨none, some 158, .ia (some 5) none (.t 157) (.v (.int .i64 0))⟩,
 ⟨none, some 159, .load (some 5) false (.t 158)⟩,
 ⟨none, some 160, .call [none] none 0 126 [(.t 159)]⟩,
 ⟨none, some 8, .alloc [(.int .i64 0), (.str []), (.bool false), (.own 6 []), (.own 5 []), (.int .i64 0)]⟩,
 ⟨none, none, .store 6 none (.t 8) (.t 160)⟩])
  (.seq (.seq (.reg (.mk [2, 3, 4, 8, 172] [(.par 0), (.loc 2), (.loc 3), (.loc 4), (.loc 8)] []) [⟨none, some 161, .fa 0 (.t 8)⟩,
 ⟨none, some 162, .load none false (.t 161)⟩,
 ⟨none, some 163, .bin [] .neq (.t 162) (.v (.int .i64 4))⟩,
 ⟨none, some 164, .mv none (.t 163)⟩,
 ⟨some (164, false), some 165, .fa 2 (.t 3)⟩,
 ⟨some (164, false), some 166, .load none false (.t 165)⟩,
 ⟨some (164, false), some 167, .ia (some 5) none (.t 166) (.v (.int .i64 1))⟩,
 ⟨some (164, false), some 168, .load (some 5) false (.t 167)⟩,
 ⟨some (164, false), some 169, .call [none] none 0 126 [(.t 168)]⟩,
 ⟨some (164, false), some 170, .fld none 0 (.t 169)⟩,
 ⟨some (164, false), some 171, .bin [] .neq (.t 170) (.v (.int .i64 1))⟩,
 ⟨none, some 172, .pick (.t 164) (.v (.bool true)) (.t 171)⟩])
  (.cond (.t 172) (.seq (.reg (.mk [3, 4] [(.par 0), (.loc 3), (.loc 4)] []) [⟨none, some 173, .load (some 6) false (.t 2)⟩,
 ⟨none, some 174, .fa 4 (.t 3)⟩,
 ⟨none, some 175, .load none false (.t 174)⟩,
 ⟨none, some 176, .call [none, none, none] none 0 85 [(.t 173), (.v (.int .i64 131)), (.t 175)]⟩])
  (.seq (.reg (.mk [4] [(.par 0), (.loc 4)] []) [⟨none, some 177, .load (some 5) false (.t 3)⟩,
 ⟨none, none, .store 5 none (.t 4) (.t 177)⟩])
  .ret)) .skip))
  (.seq (.regD (.mk [4] [(.par 0), (.loc 4)] []) [(0, 1), (0, 3)] [⟨none, some 178, .load (some 5) false (.t 3)⟩,
 ⟨none, some 179, .fa 3 (.t 8)⟩,
 ⟨none, some 180, .load none false (.t 179)⟩,
 ⟨none, some 181, .ia (some 6) none (.t 180) (.v (.int .i64 0))⟩,
 ⟨none, some 182, .load (some 6) false (.t 181)⟩,
 ⟨none, some 183, .call [none, none] none 0 120 [(.t 178), (.t 182)]⟩,
 ⟨none, none, .store 5 none (.t 4) (.t 183)⟩])
  .ret))) (.seq (.reg (.mk [2, 3, 4, 184] [(.par 0), (.loc 2), (.loc 3), (.loc 4)] []) [⟨none, some 185, .bin [] .eql (.t 120) (.v (.str [108, 101, 110]))⟩,
 ⟨none, some 184, .mvS none (.t 185)⟩])
  (.cond (.t 184) (.seq (.seq (.reg (.mk [2, 3, 4, 192] [(.par 0), (.loc 2), (.loc 3), (.loc 4)] []) [⟨none, some 186, .fa 2 (.t 3)⟩,
 ⟨none, some 187, .load none false (.t 186)⟩,
 ⟨none, some 188, .ia (some 5) none (.t 187) (.v (.int .i64 0))⟩,
 ⟨none, some 189, .load (some 5) false (.t 188)⟩,
 ⟨none, some 190, .call [none] none 0 126 [(.t 189)]⟩,
 ⟨none, some 191, .fld none 0 (.t 190)⟩,
 ⟨none, some 192, .bin [] .neq (.t 191) (.v (.int .i64 4))⟩])
  (.cond (.t 192) (.reg (.mk [3, 4] [(.par 0), (.loc 3), (.loc 4)] []) [⟨none, some 193, .load (some 6) false (.t 2)⟩,
 ⟨none, some 194, .fa 4 (.t 3)⟩,
 ⟨none, some 195, .load none false (.t 194)⟩,
 ⟨none, some 196, .call [none, none, none] none 0 85 [(.t 193), (.v (.int .i64 131)), (.t 195)]⟩]) .skip))
  (.seq (.reg (.mk [4] [(.par 0), (.loc 4)] []) [⟨none, some 197, .load (some 5) false (.t 3)⟩,
 ⟨none, some 198, .build [(0, 1), (1, 1), (2, 1), (3, 1), (4, 1), (5, 1)] [(.int .i64 0), (.str []), (.bool false), (.own 6 []), (.own 5 []), (.int .i64 0)] [0] [(.v (.int .i64 1))]⟩,
 ⟨none, some 199, .call [none, none] none 0 120 [(.t 197), (.t 198)]⟩,
 ⟨none, none, .store 5 none (.t 4) (.t 199)⟩])
  .ret)) .skip))))))))
  (.seq (.reg (.mk [4] [(.par 0), (.loc 4)] []) [⟨none, some 200, .load (some 6) false (.t 2)⟩,
 ⟨none, some 201, .load (some 5) false (.t 3)⟩,
 ⟨none, some 202, .call [none, none] none 0 148 [(.t 200), (.t 201)]⟩,
 ⟨none, none, .store 5 none (.t 4) (.t 202)⟩])
  .ret))))))))
theorem k124 {B : Heap} {args : List V} {objs : List Ob} {S : Post} (h : acwp (COk Tryz.prog B) c124 (initSt args objs) (EndP (tabT tab) [.cell 4 63] objs.length (mvOf args objs) [] S)) (hn : args.length ≤ Tryz.f124.ntmps := by exact Nat.le_of_ble_eq_true rfl) : CallS Tryz.prog B (mvOf args objs) 124 args objs S :=
  callSB tabOk mixed Tryz.func124 Tryz.call124 (hints [] [([2, 3, 4], [.par 0, .loc 2, .loc 3, .loc 4]), ([], [.par 0]), ([2, 3, 4, 14], [.par 0, .loc 2, .loc 3, .loc 4]), ([], [.par 0]), ([4], [.par 0, .loc 4]), ([], [.par 0]), ([2, 3, 4, 32], [.par 0, .loc 2, .loc 3, .loc 4]), ([], [.par 0]), ([3, 4], [.par 0, .loc 3, .loc 4]), ([], [.par 0]), ([4], [.par 0, .loc 4]), ([], [.par 0]), ([2, 3, 4, 39], [.par 0, .loc 2, .loc 3, .loc 4]), ([], [.par 0]), ([2, 3, 4, 39, 40], [.par 0, .loc 2, .loc 3, .loc 4]), ([], [.par 0]), ([2, 3, 4, 39, 40], [.par 0, .loc 2, .loc 3, .loc 4]), ([], [.par 0]), ([4], [.par 0, .loc 4]), ([], [.par 0]), ([2, 3, 4, 39, 46], [.par 0, .loc 2, .loc 3, .loc 4]), ([], [.par 0]), ([2, 3, 4, 39, 46], [.par 0, .loc 2, .loc 3, .loc 4]), ([], [.par 0]), ([4], [.par 0, .loc 4]), ([], [.par 0]), ([2, 3, 4, 39, 52], [.par 0, .loc 2, .loc 3, .loc 4]), ([], [.par 0]), ([4], [.par 0, .loc 4]), ([], [.par 0]), ([2, 3, 4, 39, 57], [.par 0, .loc 2, .loc 3, .loc 4]), ([], [.par 0]), ([2, 3, 4, 61], [.par 0, .loc 2, .loc 3, .loc 4]), ([], [.par 0]), ([2, 3, 4], [.par 0, .loc 2, .loc 3, .loc 4]), ([], [.par 0]), ([4], [.par 0, .loc 4]), ([], [.par 0]), ([2, 3, 4, 39, 71], [.par 0, .loc 2, .loc 3, .loc 4]), ([], [.par 0]), ([2, 3, 4, 5], [.par 0, .loc 2, .loc 3, .loc 4]), ([], [.par 0]), ([2, 3, 4, 5, 78], [.par 0, .loc 2, .loc 3, .loc 4]), ([], [.par 0]), ([3, 4], [.par 0, .loc 3, .loc 4]), ([], [.par 0]), ([4], [.par 0, .loc 4]), ([], [.par 0]), ([4], [.par 0, .loc 4]), ([], [.par 0]), ([2, 3, 4, 39, 92], [.par 0, .loc 2, .loc 3, .loc 4]), ([], [.par 0]), ([4], [.par 0, .loc 4]), ([], [.par 0]), ([2, 3, 4, 39, 97], [.par 0, .loc 2, .loc 3, .loc 4]), ([], [.par 0]), ([4], [.par 0, .loc 4]), ([], [.par 0]), ([2, 3, 4, 102], [.par 0, .loc 2, .loc 3, .loc 4]), ([], [.par 0]), ([4], [.par 0, .loc 4]), ([], [.par 0]), ([2, 3, 4], [.par 0, .loc 2, .loc 3, .loc 4]), ([], [.par 0]), ([2, 3, 4, 117], [.par 0, .loc 2, .loc 3, .loc 4]), ([], [.par 0]), ([4], [.par 0, .loc 4]), ([], [.par 0]), ([2, 3, 4, 120], [.par 0, .loc 2, .loc 3, .loc 4]), ([], [.par 0]), ([2, 3, 4, 120, 121], [.par 0, .loc 2, .loc 3, .loc 4]), ([], [.par 0]), ([2, 3, 4, 6, 7], [.par 0, .loc 2, .loc 3, .loc 4, .loc 6]), ([], [.par 0]), ([2, 3, 4, 6, 145], [.par 0, .loc 2, .loc 3, .loc 4, .loc 6]), ([], [.par 0]), ([3, 4, 6], [.par 0, .loc 3, .loc 4, .loc 6]), ([], [.par 0]), ([4], [.par 0, .loc 4]), ([], [.par 0]), ([2, 3, 4, 120, 154], [.par 0, .loc 2, .loc 3, .loc 4]), ([], [.par 0]), ([2, 3, 4, 8], [.par 0, .loc 2, .loc 3, .loc 4, .loc 8]), ([], [.par 0]), ([2, 3, 4, 8, 172], [.par 0, .loc 2, .loc 3, .loc 4, .loc 8]), ([], [.par 0]), ([3, 4], [.par 0, .loc 3, .loc 4]), ([], [.par 0]), ([4], [.par 0, .loc 4]), ([], [.par 0]), ([4], [.par 0, .loc 4]), ([], [.par 0]), ([2, 3, 4, 184], [.par 0, .loc 2, .loc 3, .loc 4]), ([], [.par 0]), ([2, 3, 4, 192], [.par 0, .loc 2, .loc 3, .loc 4]), ([], [.par 0]), ([3, 4], [.par 0, .loc 3, .loc 4]), ([], [.par 0]), ([4], [.par 0, .loc 4]), ([], [.par 0]), ([4], [.par 0, .loc 4]), ([], [.par 0])]) ⟨[4], [], [], []⟩ (by kernel_rfl) rfl rfl (by decide) hn h
def c126 : AC :=
  (.seq (.reg (.mk [1, 2] [(.loc 1), (.loc 2)] []) [⟨none, some 1, .box 5 [(.str []), (.str []), (.own 5 []), (.own 6 []), (.int .i64 0)] (.t 0)⟩,
 ⟨none, some 2, .alloc [(.int .i64 0), (.str []), (.bool false), (.own 6 []), (.own 5 []), (.int .i64 0)]⟩])
  (.seq (.seq (.reg (.mk [1, 2, 5] [(.loc 1), (.loc 2)] []) [⟨none, some 3, .fa 0 (.t 1)⟩,
 ⟨none, some 4, .load none false (.t 3)⟩,
 ⟨none, some 5, .bin [] .eql (.t 4) (.v (.str [108, 105, 115, 116]))⟩])
  (.cond (.t 5) (.seq (.reg (.mk [2] [(.loc 2)] []) [⟨none, some 6, .fa 3 (.t 1)⟩,
 ⟨none, some 7, .load none false (.t 6)⟩,
 ⟨none, some 8, .build [(0, 1), (1, 1), (2, 1), (3, 1), (4, 1), (5, 1)] [(.int .i64 0), (.str []), (.bool false), (.own 6 []), (.own 5 []), (.int .i64 0)] [0, 3] [(.v (.int .i64 4)), (.t 7)]⟩,
 ⟨none, none, .store 6 none (.t 2) (.t 8)⟩])
  .ret) .skip))
  (.seq (.seq (.reg (.mk [1, 2, 12] [(.loc 1), (.loc 2)] []) [⟨none, some 9, .fa 3 (.t 1)⟩,
 ⟨none, some 10, .load none false (.t 9)⟩,
 ⟨none, some 11, .lenSl (.t 10)⟩,
 ⟨none, some 12, .bin [] .eql (.t 11) (.v (.int .i64 0))⟩])
  (.cond (.t 12) (.seq (.reg (.mk [2] [(.loc 2)] []) [⟨none, some 13, .build [(0, 1), (1, 1), (2, 1), (3, 1), (4, 1), (5, 1)] [(.int .i64 0), (.str []), (.bool false), (.own 6 []), (.own 5 []), (.int .i64 0)] [] []⟩,
 ⟨none, none, .store 6 none (.t 2) (.t 13)⟩])
  .ret) .skip))
  (.seq (.reg (.mk [2] [(.loc 2)] []) [⟨none, some 14, .fa 3 (.t 1)⟩,
 ⟨none, some 15, .load none false (.t 14)⟩,
 ⟨none, some 16, .ia (some 6) none (.t 15) (.v (.int .i64 0))⟩,
 ⟨none, some 17, .load (some 6) false (.t 16)⟩,
 ⟨none, none, .store 6 none (.t 2) (.t 17)⟩])
  .ret))))
theorem k126 {B : Heap} {args : List V} {objs : List Ob} {S : Post} (h : acwp (COk Tryz.prog B) c126 (initSt args objs) (EndP (tabT tab) [.cell 2 82] objs.length (mvOf args objs) [] S)) (hn : args.length ≤ Tryz.f126.ntmps := by exact Nat.le_of_ble_eq_true rfl) : CallS Tryz.prog B (mvOf args objs) 126 args objs S :=
  callSB tabOk mixed Tryz.func126 Tryz.call126 (hints [] [([1, 2], [.loc 1, .loc 2]), ([], []), ([1, 2, 5], [.loc 1, .loc 2]), ([], []), ([2], [.loc 2]), ([], []), ([1, 2, 12], [.loc 1, .loc 2]), ([], []), ([2], [.loc 2]), ([], []), ([2], [.loc 2]), ([], [])]) ⟨[2], [], [], []⟩ (by kernel_rfl) rfl rfl (by decide) hn h
def c129 : AC :=
  (.seq (.reg (.mk [0, 1, 2] [(.par 0), (.par 1), (.par 2)] []) [⟨none, some 6, .mvS (some 8) (.v .nils)⟩,
 ⟨none, some 7, .mvS none (.v .any)⟩,
 ⟨none, some 8, .mvS none (.v (.bool false))⟩])
  (.seq (.reg (.mk [0, 1, 2, 9] [(.par 0), (.par 1), (.par 2), (.sub 15 0)] []) [⟨none, some 14, .mv none (.t 2)⟩,
 ⟨none, some 15, .call [none] none 1 153 [(.t 14)]⟩,
 ⟨none, some 9, .mvS none (.t 15)⟩])
  (.seq (.reg (.mk [2, 9, 10, 11] [(.par 0), (.par 1), (.par 2), (.sub 15 0)] []) [⟨none, some 17, .mv none (.t 0)⟩,
 ⟨none, some 18, .mv (some 7) (.t 1)⟩,
 ⟨none, some 19, .mv none (.t 9)⟩,
 ⟨none, some 20, .call [none, (some 7), none] none 0 29 [(.t 17), (.t 18), (.t 19)]⟩,
 ⟨none, some 16, .mv none (.t 20)⟩,
 ⟨none, some 21, .ext (.t 16) 0⟩,
 ⟨none, some 22, .ext (.t 16) 1⟩,
 ⟨none, some 10, .mvS (some 8) (.t 21)⟩,
 ⟨none, some 11, .mvS none (.t 22)⟩])
  (.seq (.reg (.mk [2, 9, 10, 11, 12] [(.par 0), (.par 1), (.par 2), (.sub 15 0), (.loc 23)] []) [⟨none, (some 23), .mkMap⟩,
 ⟨none, some 12, .mvS none (.t 23)⟩])
  (.seq (.seq (.reg (.mk [9, 10, 11, 12, 25] [(.par 0), (.par 1), (.par 2), (.sub 15 0), (.loc 23), (.loc 25)] []) [⟨none, some 24, .mv none (.t 2)⟩,
 ⟨none, some 25, .rng (.t 24)⟩])
  (.block 0 (.loop (.mk [9, 10, 11, 12, 25] [(.par 0), (.par 1), (.par 2), (.sub 15 0), (.loc 23), (.loc 25)] []) (.seq (.reg (.mk [9, 10, 11, 12, 25, 27] [(.par 0), (.par 1), (.par 2), (.sub 15 0), (.loc 23), (.loc 25)] []) [⟨none, some 26, .nxt (.t 25)⟩,
 ⟨none, some 27, .ext (.t 26) 0⟩])
  (.seq (.cond (.t 27) .skip (.exit 0))
  (.block 1 (.seq (.reg (.mk [9, 10, 11, 12, 13, 25] [(.par 0), (.par 1), (.par 2), (.sub 15 0), (.loc 23), (.loc 25)] []) [⟨none, some 28, .ent (.t 25)⟩,
 ⟨none, some 29, .ext (.t 28) 0⟩,
 ⟨none, some 13, .mvS none (.t 29)⟩])
  (.reg (.mk [9, 10, 11, 12, 25] [(.par 0), (.par 1), (.par 2), (.sub 15 0), (.loc 23), (.loc 25)] []) [⟨none, some 30, .mv none (.t 12)⟩,
 ⟨none, some 31, .mv none (.t 13)⟩,
 ⟨none, some 32, .mv none (.t 9)⟩,
 ⟨none, some 33, .mv none (.t 13)⟩,
 ⟨none, some 34, .mlook 4 (.agg [(.str [])]) false (.t 32) (.t 33)⟩,
 ⟨none, none, .mput 4 (.t 30) (.t 31) (.t 34)⟩]))))))))
  (.seq (.reg (.mk [6, 7, 8] [(.par 0), (.par 1), (.par 2), (.loc 23)] []) [⟨none, some 35, .mvS (some 8) (.t 10)⟩,
 ⟨none, some 36, .mvS none (.t 12)⟩,
 ⟨none, some 37, .mvS none (.t 11)⟩,
 ⟨none, some 6, .mvS (some 8) (.t 35)⟩,
 ⟨none, some 7, .mvS none (.t 36)⟩,
 ⟨none, some 8, .mvS none (.t 37)⟩])
  .ret))))))
theorem k129 {B : Heap} {args : List V} {objs : List Ob} {S : Post} (h : acwp (COk Tryz.prog B) c129 (initSt args objs) (EndP (tabT tab) [.tmp 6, .tmp 7, .tmp 8] objs.length (mvOf args objs) [.loc 23] S)) (hn : args.length ≤ Tryz.f129.ntmps := by exact Nat.le_of_ble_eq_true rfl) : CallS Tryz.prog B (mvOf args objs) 129 args objs S :=
  callSB tabOk mixed Tryz.func129 Tryz.call129 (hints [] [([0, 1, 2], [.par 0, .par 1, .par 2]), ([], [.par 0, .par 1, .par 2]), ([0, 1, 2, 9], [.par 0, .par 1, .par 2, .sub 15 0]), ([], [.par 0, .par 1, .par 2]), ([2, 9, 10, 11], [.par 0, .par 1, .par 2, .sub 15 0]), ([], [.par 0, .par 1, .par 2]), ([2, 9, 10, 11, 12], [.par 0, .par 1, .par 2, .sub 15 0, .loc 23]), ([], [.par 0, .par 1, .par 2]), ([9, 10, 11, 12, 25], [.par 0, .par 1, .par 2, .sub 15 0, .loc 23, .loc 25]), ([], [.par 0, .par 1, .par 2]), ([9, 10, 11, 12, 25, 27], [.par 0, .par 1, .par 2, .sub 15 0, .loc 23, .loc 25]), ([9, 10, 11, 12, 25], [.par 0, .par 1, .par 2, .sub 15 0, .loc 23, .loc 25]), ([9, 10, 11, 12, 13, 25], [.par 0, .par 1, .par 2, .sub 15 0, .loc 23, .loc 25]), ([], [.par 0, .par 1, .par 2]), ([9, 10, 11, 12, 25], [.par 0, .par 1, .par 2, .sub 15 0, .loc 23, .loc 25]), ([], [.par 0, .par 1, .par 2]), ([6, 7, 8], [.par 0, .par 1, .par 2, .loc 23]), ([], [.par 0, .par 1, .par 2])]) ⟨[6, 7, 8], [], [], [(153, 1)]⟩ (by kernel_rfl) rfl rfl (by decide) hn h
def c130 : AC :=
  (.seq (.reg (.mk [0] [(.par 0)] []) [⟨none, some 2, .mvS (some 1) (.v .nils)⟩])
  (.seq (.reg (.mk [0, 3] [(.par 0)] []) [⟨none, some 3, .mvS (some 1) (.v .nils)⟩])
  (.seq (.seq (.reg (.mk [3, 6] [(.par 0), (.loc 6)] []) [⟨none, some 5, .mv none (.t 0)⟩,
 ⟨none, some 6, .rng (.t 5)⟩])
  (.block 0 (.loop (.mk [3, 6] [(.par 0), (.loc 6)] []) (.seq (.reg (.mk [3, 6, 8] [(.par 0), (.loc 6)] []) [⟨none, some 7, .nxt (.t 6)⟩,
 ⟨none, some 8, .ext (.t 7) 0⟩])
  (.seq (.cond (.t 8) .skip (.exit 0))
  (.block 1 (.seq (.reg (.mk [3, 4, 6] [(.par 0), (.loc 6)] []) [⟨none, some 9, .ent (.t 6)⟩,
 ⟨none, some 10, .ext (.t 9) 0⟩,
 ⟨none, some 4, .mvS none (.t 10)⟩])
  (.reg (.mk [3, 6] [(.par 0), (.loc 6)] []) [⟨none, some 11, .mvS (some 1) (.t 3)⟩,
 ⟨none, some 12, .mv none (.t 4)⟩,
 ⟨none, some 13, .buildSl 1 [(.t 12)]⟩,
 ⟨none, some 14, .app 1 16 (.t 11) (.t 13)⟩,
 ⟨none, some 3, .mvS (some 1) (.t 14)⟩]))))))))
  (.seq (.reg (.mk [3] [(.par 0)] []) [⟨none, some 15, .mv (some 1) (.t 3)⟩,
 ⟨none, some 16, .call [(some 1)] none 0 154 [(.t 15)]⟩])
  (.seq (.reg (.mk [2] [(.par 0)] []) [⟨none, some 17, .mvS (some 1) (.t 3)⟩,
 ⟨none, some 2, .mvS (some 1) (.t 17)⟩])
  .ret)))))
theorem k130 {B : Heap} {args : List V} {objs : List Ob} {S : Post} (h : acwp (COk Tryz.prog B) c130 (initSt args objs) (EndP (tabT tab) [.tmp 2] objs.length (mvOf args objs) [] S)) (hn : args.length ≤ Tryz.f130.ntmps := by exact Nat.le_of_ble_eq_true rfl) : CallS Tryz.prog B (mvOf args objs) 130 args objs S :=
  callSB tabOk mixed Tryz.func130 Tryz.call130 (hints [] [([0], [.par 0]), ([], [.par 0]), ([0, 3], [.par 0]), ([], [.par 0]), ([3, 6], [.par 0, .loc 6]), ([], [.par 0]), ([3, 6, 8], [.par 0, .loc 6]), ([3, 6], [.par 0, .loc 6]), ([3, 4, 6], [.par 0, .loc 6]), ([], [.par 0]), ([3, 6], [.par 0, .loc 6]), ([], [.par 0]), ([3], [.par 0]), ([], [.par 0]), ([2], [.par 0]), ([], [.par 0])]) ⟨[2], [], [], []⟩ (by kernel_rfl) rfl rfl (by decide) hn h
def c132 : AC :=
  (.seq (.reg (.mk [1, 2, 4] [(.par 0), (.loc 2), (.loc 4)] []) [⟨none, some 2, .box 5 [(.str []), (.str []), (.own 5 []), (.own 6 []), (.int .i64 0)] (.t 0)⟩,
 ⟨none, some 4, .alloc [(.str []), (.str []), (.own 5 []), (.own 6 []), (.int .i64 0)]⟩])
  (.seq (.seq (.reg (.mk [1, 2, 4, 9] [(.par 0), (.loc 2), (.loc 4)] []) [⟨none, some 7, .fa 0 (.t 2)⟩,
 ⟨none, some 8, .load none false (.t 7)⟩,
 ⟨none, some 9, .bin [] .eql (.t 8) (.v (.str [118, 97, 114]))⟩])
  (.cond (.t 9) (.seq (.seq (.reg (.mk [2, 4, 5, 6] [(.par 0), (.loc 2), (.loc 4), (.loc 5)] []) [⟨none, some 11, .mv none (.t 1)⟩,
 ⟨none, some 12, .fa 1 (.t 2)⟩,
 ⟨none, some 13, .load none false (.t 12)⟩,
 ⟨none, some 14, .mlook 4 (.agg [(.str [])]) true (.t 11) (.t 13)⟩,
 ⟨none, some 10, .mv none (.t 14)⟩,
 ⟨none, some 15, .ext (.t 10) 0⟩,
 ⟨none, some 16, .ext (.t 10) 1⟩,
 ⟨none, some 5, .alloc [(.str [])]⟩,
 ⟨none, none, .store 1 none (.t 5) (.t 15)⟩,
 ⟨none, some 6, .mvS none (.t 16)⟩])
  (.seq (.reg (.mk [2, 4, 5, 17] [(.par 0), (.loc 2), (.loc 4), (.loc 5)] []) [⟨none, some 17, .mv none (.t 6)⟩])
  (.cond (.t 17) (.reg (.mk [2, 4] [(.par 0), (.loc 2), (.loc 4)] []) [⟨none, some 18, .fa 0 (.t 5)⟩,
 ⟨none, some 19, .load none false (.t 18)⟩,
 ⟨none, some 20, .fa 1 (.t 2)⟩,
 ⟨none, none, .store 1 none (.t 20) (.t 19)⟩]) .skip)))
  (.seq (.reg (.mk [4] [(.par 0), (.loc 4)] []) [⟨none, some 21, .load (some 5) false (.t 2)⟩,
 ⟨none, none, .store 5 none (.t 4) (.t 21)⟩])
  .ret)) .skip))
  (.seq (.reg (.mk [2, 4] [(.par 0), (.loc 2), (.loc 4)] []) [⟨none, some 22, .fa 2 (.t 2)⟩,
 ⟨none, some 23, .load none false (.t 22)⟩,
 ⟨none, some 24, .mv none (.t 1)⟩,
 ⟨none, some 25, .call [(some 5), none] none 0 93 [(.t 23), (.t 24)]⟩,
 ⟨none, some 26, .fa 2 (.t 2)⟩,
 ⟨none, none, .store 1 (some 5) (.t 26) (.t 25)⟩])
  (.seq (.reg (.mk [4] [(.par 0), (.loc 4)] []) [⟨none, some 27, .load (some 5) false (.t 2)⟩,
 ⟨none, none, .store 5 none (.t 4) (.t 27)⟩])
  .ret))))
theorem k132 {B : Heap} {args : List V} {objs : List Ob} {S : Post} (h : acwp (COk Tryz.prog B) c132 (initSt args objs) (EndP (tabT tab) [.cell 4 63] objs.length (mvOf args objs) [] S)) (hn : args.length ≤ Tryz.f132.ntmps := by exact Nat.le_of_ble_eq_true rfl) : CallS Tryz.prog B (mvOf args objs) 132 args objs S :=
  callSB tabOk mixed Tryz.func132 Tryz.call132 (hints [] [([1, 2, 4], [.par 0, .loc 2, .loc 4]), ([], [.par 0]), ([1, 2, 4, 9], [.par 0, .loc 2, .loc 4]), ([], [.par 0]), ([2, 4, 5, 6], [.par 0, .loc 2, .loc 4, .loc 5]), ([], [.par 0]), ([2, 4, 5, 17], [.par 0, .loc 2, .loc 4, .loc 5]), ([], [.par 0]), ([2, 4], [.par 0, .loc 2, .loc 4]), ([], [.par 0]), ([4], [.par 0, .loc 4]), ([], [.par 0]), ([2, 4], [.par 0, .loc 2, .loc 4]), ([], [.par 0]), ([4], [.par 0, .loc 4]), ([], [.par 0])]) ⟨[4], [], [], []⟩ (by kernel_rfl) rfl rfl (by decide) hn h
def c137 : AC :=
  (.seq (.reg (.mk [0] [] []) [⟨none, some 2, .mvS none (.v (.bool false))⟩])
  (.seq (.reg (.mk [2] [] []) [⟨none, some 3, .call [] none 0 157 []⟩,
 ⟨none, some 4, .mv none (.t 0)⟩,
 ⟨none, some 5, .call [(some 1), none] none 0 99 [(.t 3), (.t 4)]⟩,
 ⟨none, some 2, .mvS none (.t 5)⟩])
  .ret))
theorem k137 {B : Heap} {args : List V} {objs : List Ob} {S : Post} (h : acwp (COk Tryz.prog B) c137 (initSt args objs) (EndP (tabT tab) [.tmp 2] objs.length (mvOf args objs) [] S)) (hn : args.length ≤ Tryz.f137.ntmps := by exact Nat.le_of_ble_eq_true rfl) : CallS Tryz.prog B (mvOf args objs) 137 args objs S :=
  callSB tabOk mixed Tryz.func137 Tryz.call137 (hints [] [([0], []), ([], []), ([2], []), ([], [])]) ⟨[2], [], [], []⟩ (by kernel_rfl) rfl rfl (by decide) hn h
def c139 : AC :=
  (.seq (.reg (.mk [0, 1, 4] [(.par 0), (.loc 4)] []) [⟨none, some 4, .alloc [(.str []), (.str []), (.own 5 []), (.own 6 []), (.int .i64 0)]⟩])
  (.seq (.seq (.reg (.mk [0, 1, 4, 12] [(.par 0), (.loc 4)] []) [⟨none, some 11, .mv none (.t 1)⟩,
 ⟨none, some 12, .bin [] .eql (.t 11) (.v (.int .i64 6))⟩])
  (.cond (.t 12) (.seq (.reg (.mk [4] [(.par 0), (.loc 4)] []) [⟨none, some 13, .mv none (.t 0)⟩,
 ⟨none, some 14, .call [none] none 0 158 [(.t 13)]⟩,
 ⟨none, none, .store 5 none (.t 4) (.t 14)⟩])
  .ret) .skip))
  (.seq (.reg (.mk [0, 1, 4, 5] [(.par 0), (.loc 4)] []) [⟨none, some 15, .mv none (.t 0)⟩,
 ⟨none, some 16, .mv none (.t 1)⟩,
 ⟨none, some 17, .bin [] .add (.t 16) (.v (.int .i64 1))⟩,
 ⟨none, some 18, .call [none, none] none 0 139 [(.t 15), (.t 17)]⟩,
 ⟨none, some 19, .buildSl 5 [(.t 18)]⟩,
 ⟨none, some 5, .mvS (some 5) (.t 19)⟩])
  (.seq (.reg (.mk [0, 1, 4, 5, 6] [(.par 0), (.loc 4)] []) [⟨none, some 6, .mvS (some 5) (.v .nils)⟩])
  (.seq (.block 0 (.loop (.mk [0, 1, 4, 5, 6] [(.par 0), (.loc 4)] []) (.seq (.seq (.reg (.mk [0, 1, 4, 5, 6, 32] [(.par 0), (.loc 4)] []) [⟨none, some 20, .mv none (.t 0)⟩,
 ⟨none, some 21, .mv none (.t 1)⟩,
 ⟨none, some 22, .call [none, none] none 0 159 [(.t 20), (.t 21)]⟩,
 ⟨none, some 23, .bin [] .neq (.t 22) (.v (.str []))⟩,
 ⟨none, some 24, .mv none (.t 23)⟩,
 ⟨some (24, true), some 25, .mv none (.t 1)⟩,
 ⟨some (24, true), some 26, .bin [] .neq (.t 25) (.v (.int .i64 3))⟩,
 ⟨some (24, true), some 27, .mv none (.t 26)⟩,
 ⟨some (27, false), some 28, .mv (some 5) (.t 6)⟩,
 ⟨some (27, false), some 29, .lenSl (.t 28)⟩,
 ⟨some (27, false), some 30, .bin [] .eql (.t 29) (.v (.int .i64 0))⟩,
 ⟨some (24, true), some 31, .pick (.t 27) (.v (.bool true)) (.t 30)⟩,
 ⟨none, some 32, .pick (.t 24) (.t 31) (.v (.bool false))⟩])
  (.cond (.t 32) .skip (.exit 0)))
  (.block 1 (.seq (.reg (.mk [0, 1, 4, 5, 6] [(.par 0), (.loc 4)] []) [⟨none, some 33, .mvS (some 5) (.t 6)⟩,
 ⟨none, some 34, .mv none (.t 0)⟩,
 ⟨none, some 35, .mv none (.t 1)⟩,
 ⟨none, some 36, .call [none, none] none 0 159 [(.t 34), (.t 35)]⟩,
 ⟨none, some 37, .mv none (.t 0)⟩,
 ⟨none, some 38, .call [none] none 0 67 [(.t 37)]⟩,
 ⟨none, some 39, .build [(0, 1), (1, 1), (2, 1), (3, 1), (4, 1)] [(.str []), (.str []), (.own 5 []), (.own 6 []), (.int .i64 0)] [0, 4] [(.t 36), (.t 38)]⟩,
 ⟨none, some 40, .buildSl 5 [(.t 39)]⟩,
 ⟨none, some 41, .app 5 88 (.t 33) (.t 40)⟩,
 ⟨none, some 6, .mvS (some 5) (.t 41)⟩])
  (.seq (.reg (.mk [0, 1, 4, 5, 6] [(.par 0), (.loc 4)] []) [⟨none, some 42, .mv none (.t 0)⟩,
 ⟨none, some 43, .nilc (.t 42)⟩,
 ⟨none, some 44, .fa 1 (.t 43)⟩,
 ⟨none, some 45, .load none false (.t 44)⟩,
 ⟨none, some 46, .bin [] .add (.t 45) (.v (.int .i64 1))⟩,
 ⟨none, some 47, .nilc (.t 42)⟩,
 ⟨none, some 48, .fa 1 (.t 47)⟩,
 ⟨none, none, .store 1 none (.t 48) (.t 46)⟩])
  (.reg (.mk [0, 1, 4, 5, 6] [(.par 0), (.loc 4)] []) [⟨none, some 49, .mvS (some 5) (.t 5)⟩,
 ⟨none, some 50, .mv none (.t 0)⟩,
 ⟨none, some 51, .mv none (.t 1)⟩,
 ⟨none, some 52, .bin [] .add (.t 51) (.v (.int .i64 1))⟩,
 ⟨none, some 53, .call [none, none] none 0 139 [(.t 50), (.t 52)]⟩,
 ⟨none, some 54, .buildSl 5 [(.t 53)]⟩,
 ⟨none, some 55, .app 5 88 (.t 49) (.t 54)⟩,
 ⟨none, some 5, .mvS (some 5) (.t 55)⟩])))))))
  (.seq (.seq (.reg (.mk [4, 5, 6, 57] [(.par 0), (.loc 4)] []) [⟨none, some 56, .mv none (.t 1)⟩,
 ⟨none, some 57, .bin [] .eql (.t 56) (.v (.int .i64 0))⟩])
  (.cond (.t 57) (.seq (.reg (.mk [4, 5, 6, 7] [(.par 0), (.loc 4), (.loc 7)] []) [⟨none, some 58, .mv (some 5) (.t 5)⟩,
 ⟨none, some 59, .mv (some 5) (.t 5)⟩,
 ⟨none, some 60, .lenSl (.t 59)⟩,
 ⟨none, some 61, .bin [] .sub (.t 60) (.v (.int .i64 1))⟩,
 ⟨none, some 62, .ia (some 5) none (.t 58) (.t 61)⟩,
 ⟨none, some 63, .load (some 5) false (.t 62)⟩,
 ⟨none, some 7, .alloc [(.str []), (.str []), (.own 5 []), (.own 6 []), (.int .i64 0)]⟩,
 ⟨none, none, .store 5 none (.t 7) (.t 63)⟩])
  (.seq (.seq (.reg (.mk [4, 5, 6, 7, 8] [(.par 0), (.loc 4), (.loc 7)] []) [⟨none, some 64, .mv (some 5) (.t 6)⟩,
 ⟨none, some 65, .lenSl (.t 64)⟩,
 ⟨none, some 66, .bin [] .sub (.t 65) (.v (.int .i64 1))⟩,
 ⟨none, some 8, .mvS none (.t 66)⟩])
  (.block 2 (.loop (.mk [4, 5, 6, 7, 8] [(.par 0), (.loc 4), (.loc 7)] []) (.seq (.seq (.reg (.mk [4, 5, 6, 7, 8, 68] [(.par 0), (.loc 4), (.loc 7)] []) [⟨none, some 67, .mv none (.t 8)⟩,
 ⟨none, some 68, .bin [] .geq (.t 67) (.v (.int .i64 0))⟩])
  (.cond (.t 68) .skip (.exit 2)))
  (.seq (.block 3 (.regD (.mk [4, 5, 6, 7, 8] [(.par 0), (.loc 4), (.loc 7)] []) [(0, 1), (0, 5), (1, 5), (2, 5), (3, 5), (4, 5), (0, 6), (1, 6), (2, 6), (3, 6), (4, 6), (5, 6), (0, 7), (1, 7), (2, 7), (3, 7), (4, 7), (0, 8), (1, 8), (2, 8), (3, 8), (4, 8), (0, 9), (1, 9), (2, 9), (3, 9), (0, 10), (1, 10), (2, 10), (3, 10), (4, 10), (5, 10), (6, 10), (7, 10), (8, 10), (9, 10), (0, 11), (1, 11), (2, 11), (3, 11), (4, 11), (5, 11), (6, 11), (7, 11), (8, 11), (9, 11), (10, 11), (0, 12), (1, 12), (2, 12), (3, 12), (4, 12), (5, 12), (6, 12), (7, 12), (8, 12), (9, 12), (0, 13), (1, 13), (2, 13), (3, 13), (5, 13), (6, 13), (7, 13), (8, 13), (0, 14), (1, 14), (2, 14), (3, 14), (5, 14), (6, 14), (7, 14), (8, 14), (10, 14), (11, 14), (12, 14), (0, 15), (1, 15), (2, 15), (3, 15), (4, 15), (5, 15), (6, 15), (7, 15), (8, 15), (9, 15)] [⟨none, some 71, .mv (some 5) (.t 6)⟩,
 ⟨none, some 72, .mv none (.t 8)⟩,
 ⟨none, some 73, .ia (some 5) none (.t 71) (.t 72)⟩,
 ⟨none, some 74, .fa 0 (.t 73)⟩,
 ⟨none, some 75, .load none false (.t 74)⟩,
 ⟨none, some 76, .mv (some 5) (.t 6)⟩,
 ⟨none, some 77, .mv none (.t 8)⟩,
 ⟨none, some 78, .ia (some 5) none (.t 76) (.t 77)⟩,
 ⟨none, some 79, .fa 4 (.t 78)⟩,
 ⟨none, some 80, .load none false (.t 79)⟩,
 ⟨none, some 81, .mv (some 5) (.t 5)⟩,
 ⟨none, some 82, .mv none (.t 8)⟩,
 ⟨none, some 83, .ia (some 5) none (.t 81) (.t 82)⟩,
 ⟨none, some 84, .load (some 5) false (.t 83)⟩,
 ⟨none, some 85, .load (some 5) false (.t 7)⟩,
 ⟨none, some 86, .buildSl 5 [(.t 84), (.t 85)]⟩,
 ⟨none, some 87, .build [(0, 1), (1, 1), (2, 1), (3, 1), (4, 1)] [(.str []), (.str []), (.own 5 []), (.own 6 []), (.int .i64 0)] [0, 4, 2] [(.t 75), (.t 80), (.t 86)]⟩,
 ⟨none, none, .store 5 none (.t 7) (.t 87)⟩]))
  (.reg (.mk [4, 5, 6, 7, 8] [(.par 0), (.loc 4), (.loc 7)] []) [⟨none, some 69, .mv none (.t 8)⟩,
 ⟨none, some 70, .bin [] .sub (.t 69) (.v (.int .i64 1))⟩,
 ⟨none, some 8, .mvS none (.t 70)⟩]))))))
  (.seq (.reg (.mk [4] [(.par 0), (.loc 4)] []) [⟨none, some 88, .load (some 5) false (.t 7)⟩,
 ⟨none, none, .store 5 none (.t 4) (.t 88)⟩])
  .ret))) .skip))
  (.seq (.reg (.mk [4, 5, 6, 9] [(.par 0), (.loc 4), (.loc 9)] []) [⟨none, some 89, .mv (some 5) (.t 5)⟩,
 ⟨none, some 90, .ia (some 5) none (.t 89) (.v (.int .i64 0))⟩,
 ⟨none, some 91, .load (some 5) false (.t 90)⟩,
 ⟨none, some 9, .alloc [(.str []), (.str []), (.own 5 []), (.own 6 []), (.int .i64 0)]⟩,
 ⟨none, none, .store 5 none (.t 9) (.t 91)⟩])
  (.seq (.seq (.reg (.mk [4, 5, 6, 9, 10] [(.par 0), (.loc 4), (.loc 9)] []) [⟨none, some 10, .mvS none (.v (.int .i64 0))⟩])
  (.block 4 (.loop (.mk [4, 5, 6, 9, 10] [(.par 0), (.loc 4), (.loc 9)] []) (.seq (.seq (.reg (.mk [4, 5, 6, 9, 10, 95] [(.par 0), (.loc 4), (.loc 9)] []) [⟨none, some 92, .mv none (.t 10)⟩,
 ⟨none, some 93, .mv (some 5) (.t 6)⟩,
 ⟨none, some 94, .lenSl (.t 93)⟩,
 ⟨none, some 95, .bin [] .lss (.t 92) (.t 94)⟩])
  (.cond (.t 95) .skip (.exit 4)))
  (.seq (.block 5 (.regD (.mk [4, 5, 6, 9, 10] [(.par 0), (.loc 4), (.loc 9)] []) [(0, 1), (0, 5), (1, 5), (2, 5), (3, 5), (4, 5), (0, 6), (1, 6), (2, 6), (3, 6), (4, 6), (5, 6), (0, 7), (1, 7), (2, 7), (3, 7), (4, 7), (0, 8), (1, 8), (2, 8), (3, 8), (4, 8), (0, 9), (1, 9), (2, 9), (3, 9), (0, 10), (1, 10), (2, 10), (3, 10), (5, 10), (6, 10), (7, 10), (8, 10), (0, 11), (1, 11), (2, 11), (3, 11), (4, 11), (5, 11), (6, 11), (7, 11), (8, 11), (9, 11), (10, 11), (0, 12), (1, 12), (2, 12), (3, 12), (4, 12), (5, 12), (6, 12), (7, 12), (8, 12), (9, 12), (10, 12), (11, 12), (0, 13), (1, 13), (2, 13), (3, 13), (4, 13), (5, 13), (6, 13), (7, 13), (8, 13), (9, 13), (10, 13), (11, 13), (0, 14), (1, 14), (2, 14), (3, 14), (4, 14), (5, 14), (6, 14), (7, 14), (8, 14), (9, 14), (10, 14), (0, 15), (1, 15), (2, 15), (3, 15), (5, 15), (6, 15), (7, 15), (8, 15), (0, 16), (1, 16), (2, 16), (3, 16), (4, 16), (5, 16), (6, 16), (7, 16), (8, 16), (9, 16)] [⟨none, some 98, .mv (some 5) (.t 6)⟩,
 ⟨none, some 99, .mv none (.t 10)⟩,
 ⟨none, some 100, .ia (some 5) none (.t 98) (.t 99)⟩,
 ⟨none, some 101, .fa 0 (.t 100)⟩,
 ⟨none, some 102, .load none false (.t 101)⟩,
 ⟨none, some 103, .mv (some 5) (.t 6)⟩,
 ⟨none, some 104, .mv none (.t 10)⟩,
 ⟨none, some 105, .ia (some 5) none (.t 103) (.t 104)⟩,
 ⟨none, some 106, .fa 4 (.t 105)⟩,
 ⟨none, some 107, .load none false (.t 106)⟩,
 ⟨none, some 108, .load (some 5) false (.t 9)⟩,
 ⟨none, some 109, .mv (some 5) (.t 5)⟩,
 ⟨none, some 110, .mv none (.t 10)⟩,
 ⟨none, some 111, .bin [] .add (.t 110) (.v (.int .i64 1))⟩,
 ⟨none, some 112, .ia (some 5) none (.t 109) (.t 111)⟩,
 ⟨none, some 113, .load (some 5) false (.t 112)⟩,
 ⟨none, some 114, .buildSl 5 [(.t 108), (.t 113)]⟩,
 ⟨none, some 115, .build [(0, 1), (1, 1), (2, 1), (3, 1), (4, 1)] [(.str []), (.str []), (.own 5 []), (.own 6 []), (.int .i64 0)] [0, 4, 2] [(.t 102), (.t 107), (.t 114)]⟩,
 ⟨none, none, .store 5 none (.t 9) (.t 115)⟩]))
  (.reg (.mk [4, 5, 6, 9, 10] [(.par 0), (.loc 4), (.loc 9)] []) [⟨none, some 96, .mv none (.t 10)⟩,
 ⟨none, some 97, .bin [] .add (.t 96) (.v (.int .i64 1))⟩,
 ⟨none, some 10, .mvS none (.t 97)⟩]))))))
  (.seq (.reg (.mk [4] [(.par 0), (.loc 4)] []) [⟨none, some 116, .load (some 5) false (.t 9)⟩,
 ⟨none, none, .store 5 none (.t 4) (.t 116)⟩])
  .ret)))))))))
theorem k139 {B : Heap} {args : List V} {objs : List Ob} {S : Post} (h : acwp (COk Tryz.prog B) c139 (initSt args objs) (EndP (tabT tab) [.cell 4 63] objs.length (mvOf args objs) [] S)) (hn : args.length ≤ Tryz.f139.ntmps := by exact Nat.le_of_ble_eq_true rfl) : CallS Tryz.prog B (mvOf args objs) 139 args objs S :=
  callSB tabOk mixed Tryz.func139 Tryz.call139 (hints [] [([0, 1, 4], [.par 0, .loc 4]), ([], [.par 0]), ([0, 1, 4, 12], [.par 0, .loc 4]), ([], [.par 0]), ([4], [.par 0, .loc 4]), ([], [.par 0]), ([0, 1, 4, 5], [.par 0, .loc 4]), ([], [.par 0]), ([0, 1, 4, 5, 6], [.par 0, .loc 4]), ([], [.par 0]), ([0, 1, 4, 5, 6, 32], [.par 0, .loc 4]), ([0, 1, 4, 5, 6], [.par 0, .loc 4]), ([0, 1, 4, 5, 6], [.par 0, .loc 4]), ([], [.par 0]), ([0, 1, 4, 5, 6], [.par 0, .loc 4]), ([], [.par 0]), ([0, 1, 4, 5, 6], [.par 0, .loc 4]), ([], [.par 0]), ([4, 5, 6, 57], [.par 0, .loc 4]), ([], [.par 0]), ([4, 5, 6, 7], [.par 0, .loc 4, .loc 7]), ([], [.par 0]), ([4, 5, 6, 7, 8], [.par 0, .loc 4, .loc 7]), ([], [.par 0]), ([4, 5, 6, 7, 8, 68], [.par 0, .loc 4, .loc 7]), ([4, 5, 6, 7, 8], [.par 0, .loc 4, .loc 7]), ([4, 5, 6, 7, 8], [.par 0, .loc 4, .loc 7]), ([], [.par 0]), ([4, 5, 6, 7, 8], [.par 0, .loc 4, .loc 7]), ([], [.par 0]), ([4], [.par 0, .loc 4]), ([], [.par 0]), ([4, 5, 6, 9], [.par 0, .loc 4, .loc 9]), ([], [.par 0]), ([4, 5, 6, 9, 10], [.par 0, .loc 4, .loc 9]), ([], [.par 0]), ([4, 5, 6, 9, 10, 95], [.par 0, .loc 4, .loc 9]), ([4, 5, 6, 9, 10], [.par 0, .loc 4, .loc 9]), ([4, 5, 6, 9, 10], [.par 0, .loc 4, .loc 9]), ([], [.par 0]), ([4, 5, 6, 9, 10], [.par 0, .loc 4, .loc 9]), ([], [.par 0]), ([4], [.par 0, .loc 4]), ([], [.par 0])]) ⟨[4], [], [], []⟩ (by kernel_rfl) rfl rfl (by decide) hn h
def c141 : AC :=
  (.seq (.reg (.mk [1, 2] [(.loc 1), (.loc 2)] []) [⟨none, some 1, .box 6 [(.int .i64 0), (.str []), (.bool false), (.own 6 []), (.own 5 []), (.int .i64 0)] (.t 0)⟩,
 ⟨none, some 2, .alloc [(.int .i64 0), (.str []), (.bool false), (.own 6 []), (.own 5 []), (.int .i64 0)]⟩])
  (.seq (.reg (.mk [1, 2] [(.loc 1), (.loc 2)] []) [⟨none, some 3, .fa 4 (.t 1)⟩,
 ⟨none, none, .store 1 (some 5) (.t 3) (.v .nils)⟩])
  (.seq (.reg (.mk [1, 2] [(.loc 1), (.loc 2)] []) [⟨none, some 4, .fa 2 (.t 1)⟩,
 ⟨none, none, .store 1 none (.t 4) (.v (.bool false))⟩])
  (.seq (.reg (.mk [1, 2] [(.loc 1), (.loc 2)] []) [⟨none, some 5, .fa 5 (.t 1)⟩,
 ⟨none, none, .store 1 none (.t 5) (.v (.int .i64 0))⟩])
  (.seq (.reg (.mk [2] [(.loc 2)] []) [⟨none, some 6, .load (some 6) false (.t 1)⟩,
 ⟨none, none, .store 6 none (.t 2) (.t 6)⟩])
  .ret)))))
theorem k141 {B : Heap} {args : List V} {objs : List Ob} {S : Post} (h : acwp (COk Tryz.prog B) c141 (initSt args objs) (EndP (tabT tab) [.cell 2 82] objs.length (mvOf args objs) [] S)) (hn : args.length ≤ Tryz.f141.ntmps := by exact Nat.le_of_ble_eq_true rfl) : CallS Tryz.prog B (mvOf args objs) 141 args objs S :=
  callSB tabOk mixed Tryz.func141 Tryz.call141 (hints [] [([1, 2], [.loc 1, .loc 2]), ([], []), ([1, 2], [.loc 1, .loc 2]), ([], []), ([1, 2], [.loc 1, .loc 2]), ([], []), ([1, 2], [.loc 1, .loc 2]), ([], []), ([2], [.loc 2]), ([], [])]) ⟨[2], [], [], []⟩ (by kernel_rfl) rfl rfl (by decide) hn h
def c142 : AC :=
  (.seq (.reg (.mk [0, 4, 5] [(.loc 4), (.loc 5)] []) [⟨none, some 4, .box 6 [(.int .i64 0), (.str []), (.bool false), (.own 6 []), (.own 5 []), (.int .i64 0)] (.t 1)⟩,
 ⟨none, some 5, .box 6 [(.int .i64 0), (.str []), (.bool false), (.own 6 []), (.own 5 []), (.int .i64 0)] (.t 2)⟩,
 ⟨none, some 6, .mvS none (.v (.bool false))⟩])
  (.seq (.seq (.reg (.mk [0, 4, 5, 9] [(.loc 4), (.loc 5)] []) [⟨none, some 7, .fa 0 (.t 4)⟩,
 ⟨none, some 8, .load none false (.t 7)⟩,
 ⟨none, some 9, .bin [] .eql (.t 8) (.v (.int .i64 5))⟩])
  (.cond (.t 9) (.seq (.reg (.mk [6] [] []) [⟨none, some 10, .fa 0 (.t 5)⟩,
 ⟨none, some 11, .load none false (.t 10)⟩,
 ⟨none, some 12, .bin [] .eql (.t 11) (.v (.int .i64 3))⟩,
 ⟨none, some 13, .mv none (.t 12)⟩,
 ⟨some (13, false), some 14, .fa 0 (.t 5)⟩,
 ⟨some (13, false), some 15, .load none false (.t 14)⟩,
 ⟨some (13, false), some 16, .bin [] .eql (.t 15) (.v (.int .i64 4))⟩,
 ⟨none, some 17, .pick (.t 13) (.v (.bool true)) (.t 16)⟩,
 ⟨none, some 6, .mvS none (.t 17)⟩])
  .ret) .skip))
  (.seq (.seq (.reg (.mk [0, 4, 5, 25] [(.loc 4), (.loc 5)] []) [⟨none, some 18, .fa 0 (.t 4)⟩,
 ⟨none, some 19, .load none false (.t 18)⟩,
 ⟨none, some 20, .bin [] .eql (.t 19) (.v (.int .i64 3))⟩,
 ⟨none, some 21, .mv none (.t 20)⟩,
 ⟨some (21, true), some 22, .fa 0 (.t 5)⟩,
 ⟨some (21, true), some 23, .load none false (.t 22)⟩,
 ⟨some (21, true), some 24, .bin [] .eql (.t 23) (.v (.int .i64 3))⟩,
 ⟨none, some 25, .pick (.t 21) (.t 24) (.v (.bool false))⟩])
  (.cond (.t 25) (.seq (.reg (.mk [6] [] []) [⟨none, some 26, .mv (some 9) (.t 0)⟩,
 ⟨none, some 27, .fa 1 (.t 4)⟩,
 ⟨none, some 28, .load none false (.t 27)⟩,
 ⟨none, some 29, .fa 1 (.t 5)⟩,
 ⟨none, some 30, .load none false (.t 29)⟩,
 ⟨none, some 31, .call [(some 9), none, none] none 0 161 [(.t 26), (.t 28), (.t 30)]⟩,
 ⟨none, some 6, .mvS none (.t 31)⟩])
  .ret) .skip))
  (.seq (.regD (.mk [6] [] []) [(4, 6), (5, 6), (4, 7), (5, 7), (11, 13), (12, 13)] [⟨none, some 32, .fa 0 (.t 4)⟩,
 ⟨none, some 33, .load none false (.t 32)⟩,
 ⟨none, some 34, .bin [] .neq (.t 33) (.v (.int .i64 0))⟩,
 ⟨none, some 35, .mv none (.t 34)⟩,
 ⟨some (35, true), some 36, .fa 0 (.t 4)⟩,
 ⟨some (35, true), some 37, .load none false (.t 36)⟩,
 ⟨some (35, true), some 38, .fa 0 (.t 5)⟩,
 ⟨some (35, true), some 39, .load none false (.t 38)⟩,
 ⟨some (35, true), some 40, .bin [] .eql (.t 37) (.t 39)⟩,
 ⟨none, some 41, .pick (.t 35) (.t 40) (.v (.bool false))⟩,
 ⟨none, some 42, .mv none (.t 41)⟩,
 ⟨some (42, true), some 43, .load (some 6) false (.t 4)⟩,
 ⟨some (42, true), some 44, .call [none] none 0 82 [(.t 43)]⟩,
 ⟨some (42, true), some 45, .load (some 6) false (.t 5)⟩,
 ⟨some (42, true), some 46, .call [none] none 0 82 [(.t 45)]⟩,
 ⟨some (42, true), some 47, .bin [] .eql (.t 44) (.t 46)⟩,
 ⟨none, some 48, .pick (.t 42) (.t 47) (.v (.bool false))⟩,
 ⟨none, some 6, .mvS none (.t 48)⟩])
  .ret))))
theorem k142 {B : Heap} {args : List V} {objs : List Ob} {S : Post} (h : acwp (COk Tryz.prog B) c142 (initSt args objs) (EndP (tabT tab) [.tmp 6] objs.length (mvOf args objs) [] S)) (hn : args.length ≤ Tryz.f142.ntmps := by exact Nat.le_of_ble_eq_true rfl) : CallS Tryz.prog B (mvOf args objs) 142 args objs S :=
  callSB tabOk mixed Tryz.func142 Tryz.call142 (hints [] [([0, 4, 5], [.loc 4, .loc 5]), ([], []), ([0, 4, 5, 9], [.loc 4, .loc 5]), ([], []), ([6], []), ([], []), ([0, 4, 5, 25], [.loc 4, .loc 5]), ([], []), ([6], []), ([], []), ([6], []), ([], [])]) ⟨[6], [], [], []⟩ (by kernel_rfl) rfl rfl (by decide) hn h
def c148 : AC :=
  (.seq (.reg (.mk [2, 3, 4] [(.par 0), (.loc 2), (.loc 3), (.loc 4)] []) [⟨none, some 2, .box 6 [(.own 9 []), (.str []), (.own 8 []), (.bool false), (.own 6 []), .nilp] (.t 0)⟩,
 ⟨none, some 3, .box 5 [(.str []), (.str []), (.own 5 []), (.own 6 []), (.int .i64 0)] (.t 1)⟩,
 ⟨none, some 4, .alloc [(.str []), (.str []), (.own 5 []), (.own 6 []), (.int .i64 0)]⟩])
  (.seq (.reg (.mk [2, 3, 4, 5, 6] [(.par 0), (.loc 2), (.loc 3), (.loc 4)] []) [⟨none, some 5, .mvS none (.v (.int .i64 1))⟩,
 ⟨none, some 6, .mvS none (.v (.int .i64 2))⟩])
  (.seq (.seq (.reg (.mk [2, 3, 4, 5, 6, 11] [(.par 0), (.loc 2), (.loc 3), (.loc 4)] []) [⟨none, some 10, .fa 0 (.t 3)⟩,
 ⟨none, some 11, .load none false (.t 10)⟩])
  (.block 0 (.seq (.seq (.reg (.mk [2, 3, 4, 5, 6, 11, 12] [(.par 0), (.loc 2), (.loc 3), (.loc 4)] []) [⟨none, some 13, .bin [] .eql (.t 11) (.v (.str [110, 101, 103]))⟩,
 ⟨none, some 12, .mvS none (.t 13)⟩])
  (.cond (.t 12) .skip (.seq (.reg (.mk [2, 3, 4, 5, 6, 11, 12] [(.par 0), (.loc 2), (.loc 3), (.loc 4)] []) [⟨none, some 14, .bin [] .eql (.t 11) (.v (.str [43]))⟩,
 ⟨none, some 12, .mvS none (.t 14)⟩])
  (.cond (.t 12) .skip (.seq (.reg (.mk [2, 3, 4, 5, 6, 11, 12] [(.par 0), (.loc 2), (.loc 3), (.loc 4)] []) [⟨none, some 15, .bin [] .eql (.t 11) (.v (.str [45]))⟩,
 ⟨none, some 12, .mvS none (.t 15)⟩])
  (.cond (.t 12) .skip (.seq (.reg (.mk [2, 3, 4, 5, 6, 11, 12] [(.par 0), (.loc 2), (.loc 3), (.loc 4)] []) [⟨none, some 16, .bin [] .eql (.t 11) (.v (.str [42]))⟩,
 ⟨none, some 12, .mvS none (.t 16)⟩])
  (.cond (.t 12) .skip (.seq (.reg (.mk [2, 3, 4, 5, 6, 11, 12] [(.par 0), (.loc 2), (.loc 3), (.loc 4)] []) [⟨none, some 17, .bin [] .eql (.t 11) (.v (.str [47]))⟩,
 ⟨none, some 12, .mvS none (.t 17)⟩])
  (.cond (.t 12) .skip (.reg (.mk [2, 3, 4, 5, 6, 11, 12] [(.par 0), (.loc 2), (.loc 3), (.loc 4)] []) [⟨none, some 18, .bin [] .eql (.t 11) (.v (.str [37]))⟩,
 ⟨none, some 12, .mvS none (.t 18)⟩])))))))))))
  (.cond (.t 12) (.reg (.mk [2, 3, 4, 5, 6] [(.par 0), (.loc 2), (.loc 3), (.loc 4)] []) [⟨none, some 6, (.mvS none (.v (.int .i64 1)))⟩]) (.seq (.seq (.reg (.mk [2, 3, 4, 5, 6, 11, 19] [(.par 0), (.loc 2), (.loc 3), (.loc 4)] []) [⟨none, (some 20), (.bin [] .eql (.t 11) (.v (.str [110, 111, 116])))⟩,
 ⟨none, some 19, .mvS none (.t 20)⟩])
  (.cond (.t 19) .skip (.seq (.reg (.mk [2, 3, 4, 5, 6, 11, 19] [(.par 0), (.loc 2), (.loc 3), (.loc 4)] []) [⟨none, some 21, .bin [] .eql (.t 11) (.v (.str [38, 38]))⟩,
 ⟨none, some 19, .mvS none (.t 21)⟩])
  (.cond (.t 19) .skip (.seq (.reg (.mk [2, 3, 4, 5, 6, 11, 19] [(.par 0), (.loc 2), (.loc 3), (.loc 4)] []) [⟨none, some 22, .bin [] .eql (.t 11) (.v (.str [124, 124]))⟩,
 ⟨none, some 19, .mvS none (.t 22)⟩])
  (.cond (.t 19) .skip (.reg (.mk [2, 3, 4, 5, 6, 11, 19] [(.par 0), (.loc 2), (.loc 3), (.loc 4)] []) [⟨none, some 23, .bin [] .eql (.t 11) (.v (.str [61, 62]))⟩,
 ⟨none, some 19, .mvS none (.t 23)⟩])))))))
  (.cond (.t 19) (.reg (.mk [2, 3, 4, 5, 6] [(.par 0), (.loc 2), (.loc 3), (.loc 4)] []) [⟨none, some 5, (.mvS none (.v (.int .i64 2)))⟩]) (.seq (.seq (.reg (.mk [2, 3, 4, 5, 6, 11, 24] [(.par 0), (.loc 2), (.loc 3), (.loc 4)] []) [⟨none, (some 25), (.bin [] .eql (.t 11) (.v (.str [61, 61])))⟩,
 ⟨none, some 24, .mvS none (.t 25)⟩])
  (.cond (.t 24) .skip (.reg (.mk [2, 3, 4, 5, 6, 24] [(.par 0), (.loc 2), (.loc 3), (.loc 4)] []) [⟨none, some 26, .bin [] .eql (.t 11) (.v (.str [33, 61]))⟩,
 ⟨none, some 24, .mvS none (.t 26)⟩])))
  (.cond (.t 24) (.seq (.regD (.mk [2, 3, 4, 7, 8] [(.par 0), (.loc 2), (.loc 3), (.loc 4), (.loc 7), (.loc 8)] []) [(0, 5), (1, 5), (2, 5), (3, 5), (4, 5), (0, 6), (2, 6), (4, 6), (0, 7), (1, 7), (2, 7), (3, 7), (4, 7), (0, 8), (2, 8), (4, 8), (0, 10), (1, 10), (2, 10), (3, 10), (4, 10), (5, 10), (6, 10), (7, 10), (8, 10), (9, 10), (0, 11), (1, 11), (2, 11), (3, 11), (4, 11), (5, 11), (6, 11), (7, 11), (8, 11), (9, 11), (10, 11)] [⟨none, some 27, .fa 2 (.t 3)⟩,
 ⟨none, some 28, .load none false (.t 27)⟩,
 ⟨none, some 29, .ia (some 5) none (.t 28) (.v (.int .i64 0))⟩,
 ⟨none, some 30, .load (some 5) false (.t 29)⟩,
 ⟨none, some 31, .call [none] none 0 126 [(.t 30)]⟩,
 ⟨none, some 32, .fa 2 (.t 3)⟩,
 ⟨none, some 33, .load none false (.t 32)⟩,
 ⟨none, some 34, .ia (some 5) none (.t 33) (.v (.int .i64 1))⟩,
 ⟨none, some 35, .load (some 5) false (.t 34)⟩,
 ⟨none, some 36, .call [none] none 0 126 [(.t 35)]⟩,
 ⟨none, some 7, .alloc [(.int .i64 0), (.str []), (.bool false), (.own 6 []), (.own 5 []), (.int .i64 0)]⟩,
 ⟨none, some 8, .alloc [(.int .i64 0), (.str []), (.bool false), (.own 6 []), (.own 5 []), (.int .i64 0)]⟩,
 ⟨none, none, .store 6 none (.t 7) (.t 31)⟩,
 ⟨none, none, .store 6 none (.t 8) (.t 36)⟩])
  (.seq (.seq (.reg (.mk [2, 3, 4, 60] [(.par 0), (.loc 2), (.loc 3), (.loc 4)] []) [⟨none, some 37, .fa 0 (.t 2)⟩,
 ⟨none, some 38, .load none false (.t 37)⟩,
 ⟨none, some 39, .load (some 6) false (.t 7)⟩,
 ⟨none, some 40, .load (some 6) false (.t 8)⟩,
 ⟨none, some 41, .call [(some 9), none, none] none 0 142 [(.t 38), (.t 39), (.t 40)]⟩,
 ⟨none, some 42, .un .not (.t 41)⟩,
 ⟨none, some 43, .mv none (.t 42)⟩,
 ⟨some (43, true), some 44, .fa 0 (.t 2)⟩,
 ⟨some (43, true), some 45, .load none false (.t 44)⟩,
 ⟨some (43, true), some 46, .load (some 6) false (.t 8)⟩,
 ⟨some (43, true), some 47, .load (some 6) false (.t 7)⟩,
 ⟨some (43, true), some 48, .call [(some 9), none, none] none 0 142 [(.t 45), (.t 46), (.t 47)]⟩,
 ⟨some (43, true), some 49, .un .not (.t 48)⟩,
 ⟨none, some 50, .pick (.t 43) (.t 49) (.v (.bool false))⟩,
 ⟨none, some 51, .mv none (.t 50)⟩,
 ⟨some (51, true), some 52, .fa 0 (.t 7)⟩,
 ⟨some (51, true), some 53, .load none false (.t 52)⟩,
 ⟨some (51, true), some 54, .bin [] .neq (.t 53) (.v (.int .i64 5))⟩,
 ⟨some (51, true), some 55, .mv none (.t 54)⟩,
 ⟨some (55, false), some 56, .fa 0 (.t 8)⟩,
 ⟨some (55, false), some 57, .load none false (.t 56)⟩,
 ⟨some (55, false), some 58, .bin [] .neq (.t 57) (.v (.int .i64 5))⟩,
 ⟨some (51, true), some 59, .pick (.t 55) (.v (.bool true)) (.t 58)⟩,
 ⟨none, some 60, .pick (.t 51) (.t 59) (.v (.bool false))⟩])
  (.cond (.t 60) (.reg (.mk [3, 4] [(.par 0), (.loc 3), (.loc 4)] []) [⟨none, some 61, .load (some 6) false (.t 2)⟩,
 ⟨none, some 62, .fa 4 (.t 3)⟩,
 ⟨none, some 63, .load none false (.t 62)⟩,
 ⟨none, some 64, .call [none, none, none] none 0 85 [(.t 61), (.v (.int .i64 131)), (.t 63)]⟩]) .skip))
  (.seq (.reg (.mk [4] [(.par 0), (.loc 4)] []) [⟨none, some 65, .load (some 5) false (.t 3)⟩,
 ⟨none, some 66, .build [(0, 1), (1, 1), (2, 1), (3, 1), (4, 1), (5, 1)] [(.int .i64 0), (.str []), (.bool false), (.own 6 []), (.own 5 []), (.int .i64 0)] [0] [(.v (.int .i64 2))]⟩,
 ⟨none, some 67, .call [none, none] none 0 120 [(.t 65), (.t 66)]⟩,
 ⟨none, none, .store 5 none (.t 4) (.t 67)⟩])
  .ret))) .skip))))))))
  (.seq (.seq (.reg (.mk [2, 3, 4, 5, 6, 9] [(.par 0), (.loc 2), (.loc 3), (.loc 4)] []) [⟨none, some 9, .mvS none (.v (.int .i64 0))⟩])
  (.block 1 (.loop (.mk [2, 3, 4, 5, 6, 9] [(.par 0), (.loc 2), (.loc 3), (.loc 4)] []) (.seq (.seq (.reg (.mk [2, 3, 4, 5, 6, 9, 72] [(.par 0), (.loc 2), (.loc 3), (.loc 4)] []) [⟨none, some 68, .mv none (.t 9)⟩,
 ⟨none, some 69, .fa 2 (.t 3)⟩,
 ⟨none, some 70, .load none false (.t 69)⟩,
 ⟨none, some 71, .lenSl (.t 70)⟩,
 ⟨none, some 72, .bin [] .lss (.t 68) (.t 71)⟩])
  (.cond (.t 72) .skip (.exit 1)))
  (.seq (.block 2 (.seq (.reg (.mk [2, 3, 4, 5, 6, 9, 83] [(.par 0), (.loc 2), (.loc 3), (.loc 4)] []) [⟨none, some 75, .fa 2 (.t 3)⟩,
 ⟨none, some 76, .load none false (.t 75)⟩,
 ⟨none, some 77, .mv none (.t 9)⟩,
 ⟨none, some 78, .ia (some 5) none (.t 76) (.t 77)⟩,
 ⟨none, some 79, .load (some 5) false (.t 78)⟩,
 ⟨none, some 80, .call [none] none 0 126 [(.t 79)]⟩,
 ⟨none, some 81, .fld none 0 (.t 80)⟩,
 ⟨none, some 82, .mv none (.t 5)⟩,
 ⟨none, some 83, .bin [] .neq (.t 81) (.t 82)⟩])
  (.cond (.t 83) (.reg (.mk [2, 3, 4, 5, 6, 9] [(.par 0), (.loc 2), (.loc 3), (.loc 4)] []) [⟨none, some 84, .load (some 6) false (.t 2)⟩,
 ⟨none, some 85, .fa 4 (.t 3)⟩,
 ⟨none, some 86, .load none false (.t 85)⟩,
 ⟨none, some 87, .call [none, none, none] none 0 85 [(.t 84), (.v (.int .i64 131)), (.t 86)]⟩]) .skip)))
  (.reg (.mk [2, 3, 4, 5, 6, 9] [(.par 0), (.loc 2), (.loc 3), (.loc 4)] []) [⟨none, some 73, .mv none (.t 9)⟩,
 ⟨none, some 74, .bin [] .add (.t 73) (.v (.int .i64 1))⟩,
 ⟨none, some 9, .mvS none (.t 74)⟩]))))))
  (.seq (.reg (.mk [4] [(.par 0), (.loc 4)] []) [⟨none, some 88, .load (some 5) false (.t 3)⟩,
 ⟨none, some 89, .mv none (.t 6)⟩,
 ⟨none, some 90, .build [(0, 1), (1, 1), (2, 1), (3, 1), (4, 1), (5, 1)] [(.int .i64 0), (.str []), (.bool false), (.own 6 []), (.own 5 []), (.int .i64 0)] [0] [(.t 89)]⟩,
 ⟨none, some 91, .call [none, none] none 0 120 [(.t 88), (.t 90)]⟩,
 ⟨none, none, .store 5 none (.t 4) (.t 91)⟩])
  .ret)))))
theorem k148 {B : Heap} {args : List V} {objs : List Ob} {S : Post} (h : acwp (COk Tryz.prog B) c148 (initSt args objs) (EndP (tabT tab) [.cell 4 63] objs.length (mvOf args objs) [] S)) (hn : args.length ≤ Tryz.f148.ntmps := by exact Nat.le_of_ble_eq_true rfl) : CallS Tryz.prog B (mvOf args objs) 148 args objs S :=
  callSB tabOk mixed Tryz.func148 Tryz.call148 (hints [] [([2, 3, 4], [.par 0, .loc 2, .loc 3, .loc 4]), ([], [.par 0]), ([2, 3, 4, 5, 6], [.par 0, .loc 2, .loc 3, .loc 4]), ([], [.par 0]), ([2, 3, 4, 5, 6, 11], [.par 0, .loc 2, .loc 3, .loc 4]), ([], [.par 0]), ([2, 3, 4, 5, 6, 11, 12], [.par 0, .loc 2, .loc 3, .loc 4]), ([], [.par 0]), ([2, 3, 4, 5, 6, 11, 12], [.par 0, .loc 2, .loc 3, .loc 4]), ([], [.par 0]), ([2, 3, 4, 5, 6, 11, 12], [.par 0, .loc 2, .loc 3, .loc 4]), ([], [.par 0]), ([2, 3, 4, 5, 6, 11, 12], [.par 0, .loc 2, .loc 3, .loc 4]), ([], [.par 0]), ([2, 3, 4, 5, 6, 11, 12], [.par 0, .loc 2, .loc 3, .loc 4]), ([], [.par 0]), ([2, 3, 4, 5, 6, 11, 12], [.par 0, .loc 2, .loc 3, .loc 4]), ([], [.par 0]), ([2, 3, 4, 5, 6], [.par 0, .loc 2, .loc 3, .loc 4]), ([], [.par 0]), ([2, 3, 4, 5, 6, 11, 19], [.par 0, .loc 2, .loc 3, .loc 4]), ([], [.par 0]), ([2, 3, 4, 5, 6, 11, 19], [.par 0, .loc 2, .loc 3, .loc 4]), ([], [.par 0]), ([2, 3, 4, 5, 6, 11, 19], [.par 0, .loc 2, .loc 3, .loc 4]), ([], [.par 0]), ([2, 3, 4, 5, 6, 11, 19], [.par 0, .loc 2, .loc 3, .loc 4]), ([], [.par 0]), ([2, 3, 4, 5, 6], [.par 0, .loc 2, .loc 3, .loc 4]), ([], [.par 0]), ([2, 3, 4, 5, 6, 11, 24], [.par 0, .loc 2, .loc 3, .loc 4]), ([], [.par 0]), ([2, 3, 4, 5, 6, 24], [.par 0, .loc 2, .loc 3, .loc 4]), ([], [.par 0]), ([2, 3, 4, 7, 8], [.par 0, .loc 2, .loc 3, .loc 4, .loc 7, .loc 8]), ([], [.par 0]), ([2, 3, 4, 60], [.par 0, .loc 2, .loc 3, .loc 4]), ([], [.par 0]), ([3, 4], [.par 0, .loc 3, .loc 4]), ([], [.par 0]), ([4], [.par 0, .loc 4]), ([], [.par 0]), ([2, 3, 4, 5, 6, 9], [.par 0, .loc 2, .loc 3, .loc 4]), ([], [.par 0]), ([2, 3, 4, 5, 6, 9, 72], [.par 0, .loc 2, .loc 3, .loc 4]), ([2, 3, 4, 5, 6, 9], [.par 0, .loc 2, .loc 3, .loc 4]), ([2, 3, 4, 5, 6, 9], [.par 0, .loc 2, .loc 3, .loc 4]), ([], [.par 0]), ([2, 3, 4, 5, 6, 9, 83], [.par 0, .loc 2, .loc 3, .loc 4]), ([], [.par 0]), ([2, 3, 4, 5, 6, 9], [.par 0, .loc 2, .loc 3, .loc 4]), ([], [.par 0]), ([4], [.par 0, .loc 4]), ([], [.par 0])]) ⟨[4], [], [], []⟩ (by kernel_rfl) rfl rfl (by decide) hn h
def c153 : AC :=
  (.seq (.reg (.mk [0] [(.par 0)] []) [⟨none, some 2, .mvS none (.v .any)⟩])
  (.seq (.reg (.mk [0, 3] [(.par 0), (.loc 6)] []) [⟨none, (some 6), .mkMap⟩,
 ⟨none, some 3, .mvS none (.t 6)⟩])
  (.seq (.seq (.reg (.mk [3, 8] [(.par 0), (.loc 6), (.loc 8)] []) [⟨none, some 7, .mv none (.t 0)⟩,
 ⟨none, some 8, .rng (.t 7)⟩])
  (.block 0 (.loop (.mk [3, 8] [(.par 0), (.loc 6), (.loc 8)] []) (.seq (.reg (.mk [3, 8, 10] [(.par 0), (.loc 6), (.loc 8)] []) [⟨none, some 9, .nxt (.t 8)⟩,
 ⟨none, some 10, .ext (.t 9) 0⟩])
  (.seq (.cond (.t 10) .skip (.exit 0))
  (.block 1 (.seq (.reg (.mk [3, 4, 5, 8] [(.par 0), (.loc 5), (.loc 6), (.loc 8)] []) [⟨none, some 11, .ent (.t 8)⟩,
 ⟨none, some 12, .ext (.t 11) 0⟩,
 ⟨none, some 13, .ext (.t 11) 1⟩,
 ⟨none, some 5, .alloc [(.str [])]⟩,
 ⟨none, some 4, .mvS none (.t 12)⟩,
 ⟨none, none, .store 1 none (.t 5) (.t 13)⟩])
  (.reg (.mk [3, 8] [(.par 0), (.loc 6), (.loc 8)] []) [⟨none, some 14, .mv none (.t 3)⟩,
 ⟨none, some 15, .mv none (.t 4)⟩,
 ⟨none, some 16, .load (some 1) false (.t 5)⟩,
 ⟨none, none, .mput 4 (.t 14) (.t 15) (.t 16)⟩]))))))))
  (.seq (.reg (.mk [2] [(.par 0), (.loc 6)] []) [⟨none, some 17, .mvS none (.t 3)⟩,
 ⟨none, some 2, .mvS none (.t 17)⟩])
  .ret))))
theorem k153 {B : Heap} {args : List V} {objs : List Ob} {S : Post} (h : acwp (COk Tryz.prog B) c153 (initSt args objs) (EndP (tabT tab) [.tmp 2] objs.length (mvOf args objs) [.loc 6] S)) (hn : args.length ≤ Tryz.f153.ntmps := by exact Nat.le_of_ble_eq_true rfl) : CallS Tryz.prog B (mvOf args objs) 153 args objs S :=
  callSB tabOk mixed Tryz.func153 Tryz.call153 (hints [] [([0], [.par 0]), ([], [.par 0]), ([0, 3], [.par 0, .loc 6]), ([], [.par 0]), ([3, 8], [.par 0, .loc 6, .loc 8]), ([], [.par 0]), ([3, 8, 10], [.par 0, .loc 6, .loc 8]), ([3, 8], [.par 0, .loc 6, .loc 8]), ([3, 4, 5, 8], [.par 0, .loc 5, .loc 6, .loc 8]), ([], [.par 0]), ([3, 8], [.par 0, .loc 6, .loc 8]), ([], [.par 0]), ([2], [.par 0, .loc 6]), ([], [.par 0])]) ⟨[2], [], [], []⟩ (by kernel_rfl) rfl rfl (by decide) hn h
def c157 : AC :=
  (.seq (.reg (.mk [] [] []) [⟨none, some 0, .mvS (some 1) (.v .nils)⟩])
  (.seq (.reg (.mk [0] [] []) [⟨none, some 1, .buildSl 1 [(.v (.str [99, 108, 97, 115, 115])), (.v (.str [105, 110, 116, 101, 114, 102, 97, 99, 101])), (.v (.str [101, 120, 116, 101, 110, 100, 115])), (.v (.str [105, 109, 112, 108, 101, 109, 101, 110, 116, 115])), (.v (.str [102, 105, 110, 97, 108])), (.v (.str [118, 97, 114])), (.v (.str [105, 110, 118, 97, 114, 105, 97, 110, 116])), (.v (.str [110, 101, 119])), (.v (.str [115, 117, 112, 101, 114])), (.v (.str [100, 101, 102])), (.v (.str [118, 111, 105, 100])), (.v (.str [105, 110, 116])), (.v (.str [98, 111, 111, 108])), (.v (.str [108, 101, 116])), (.v (.str [105, 102])), (.v (.str [101, 108, 115, 101])), (.v (.str [119, 104, 105, 108, 101])), (.v (.str [114, 101, 116, 117, 114, 110])), (.v (.str [97, 115, 115, 101, 114, 116])), (.v (.str [112, 114, 105, 110, 116])), (.v (.str [116, 114, 117, 101])), (.v (.str [102, 97, 108, 115, 101])), (.v (.str [110, 117, 108, 108])), (.v (.str [116, 104, 105, 115])), (.v (.str [108, 105, 115, 116])), (.v (.str [108, 101, 110])), (.v (.str [114, 101, 97, 100])), (.v (.str [109, 97, 105, 110]))]⟩,
 ⟨none, some 0, .mvS (some 1) (.t 1)⟩])
  .ret))
theorem k157 {B : Heap} {args : List V} {objs : List Ob} {S : Post} (h : acwp (COk Tryz.prog B) c157 (initSt args objs) (EndP (tabT tab) [.tmp 0] objs.length (mvOf args objs) [] S)) (hn : args.length ≤ Tryz.f157.ntmps := by exact Nat.le_of_ble_eq_true rfl) : CallS Tryz.prog B (mvOf args objs) 157 args objs S :=
  callSB tabOk mixed Tryz.func157 Tryz.call157 (hints [] [([], []), ([], []), ([0], []), ([], [])]) ⟨[0], [], [], []⟩ (by kernel_rfl) rfl rfl (by decide) hn h
def c158 : AC :=
  (.seq (.reg (.mk [0, 2] [(.par 0), (.loc 2)] []) [⟨none, some 2, .alloc [(.str []), (.str []), (.own 5 []), (.own 6 []), (.int .i64 0)]⟩])
  (.seq (.seq (.reg (.mk [0, 2, 11] [(.par 0), (.loc 2)] []) [⟨none, some 6, .mv none (.t 0)⟩,
 ⟨none, some 7, .call [none, none, none] none 0 44 [(.t 6), (.v (.int .i64 0)), (.v (.str [45]))]⟩,
 ⟨none, some 8, .mv none (.t 7)⟩,
 ⟨some (8, false), some 9, .mv none (.t 0)⟩,
 ⟨some (8, false), some 10, .call [none, none, none] none 0 44 [(.t 9), (.v (.int .i64 0)), (.v (.str [33]))]⟩,
 ⟨none, some 11, .pick (.t 8) (.v (.bool true)) (.t 10)⟩])
  (.cond (.t 11) (.seq (.reg (.mk [0, 2, 3] [(.par 0), (.loc 2), (.loc 3)] []) [⟨none, some 12, .mv none (.t 0)⟩,
 ⟨none, some 13, .call [none] none 0 67 [(.t 12)]⟩,
 ⟨none, some 14, .build [(0, 1), (1, 1), (2, 1), (3, 1), (4, 1)] [(.str []), (.str []), (.own 5 []), (.own 6 []), (.int .i64 0)] [0, 4] [(.v (.str [110, 101, 103])), (.t 13)]⟩,
 ⟨none, some 3, .alloc [(.str []), (.str []), (.own 5 []), (.own 6 []), (.int .i64 0)]⟩,
 ⟨none, none, .store 5 none (.t 3) (.t 14)⟩])
  (.seq (.seq (.reg (.mk [0, 2, 3, 16] [(.par 0), (.loc 2), (.loc 3)] []) [⟨none, some 15, .mv none (.t 0)⟩,
 ⟨none, some 16, .call [none, none, none] none 0 44 [(.t 15), (.v (.int .i64 0)), (.v (.str [33]))]⟩])
  (.cond (.t 16) (.reg (.mk [0, 2, 3] [(.par 0), (.loc 2), (.loc 3)] []) [⟨none, some 17, .fa 0 (.t 3)⟩,
 ⟨none, none, .store 1 none (.t 17) (.v (.str [110, 111, 116]))⟩]) .skip))
  (.seq (.reg (.mk [0, 2, 3] [(.par 0), (.loc 2), (.loc 3)] []) [⟨none, some 18, .mv none (.t 0)⟩,
 ⟨none, some 19, .nilc (.t 18)⟩,
 ⟨none, some 20, .fa 1 (.t 19)⟩,
 ⟨none, some 21, .load none false (.t 20)⟩,
 ⟨none, some 22, .bin [] .add (.t 21) (.v (.int .i64 1))⟩,
 ⟨none, some 23, .nilc (.t 18)⟩,
 ⟨none, some 24, .fa 1 (.t 23)⟩,
 ⟨none, none, .store 1 none (.t 24) (.t 22)⟩])
  (.seq (.seq (.reg (.mk [0, 2, 3, 26] [(.par 0), (.loc 2), (.loc 3)] []) [⟨none, some 25, .mv none (.t 0)⟩,
 ⟨none, some 26, .call [none] none 0 73 [(.t 25)]⟩])
  (.cond (.t 26) (.reg (.mk [0, 2, 3] [(.par 0), (.loc 2), (.loc 3)] []) [⟨none, some 27, .mv none (.t 0)⟩,
 ⟨none, some 28, .call [none] none 0 158 [(.t 27)]⟩,
 ⟨none, some 29, .buildSl 5 [(.t 28)]⟩,
 ⟨none, some 30, .fa 2 (.t 3)⟩,
 ⟨none, none, .store 1 (some 5) (.t 30) (.t 29)⟩]) .skip))
  (.seq (.reg (.mk [2, 3] [(.par 0), (.loc 2), (.loc 3)] []) [⟨none, some 31, .mv none (.t 0)⟩,
 ⟨none, some 32, .nilc (.t 31)⟩,
 ⟨none, some 33, .fa 3 (.t 32)⟩,
 ⟨none, some 34, .load none false (.t 33)⟩,
 ⟨none, some 35, .bin [] .sub (.t 34) (.v (.int .i64 1))⟩,
 ⟨none, some 36, .nilc (.t 31)⟩,
 ⟨none, some 37, .fa 3 (.t 36)⟩,
 ⟨none, none, .store 1 none (.t 37) (.t 35)⟩])
  (.seq (.reg (.mk [2] [(.par 0), (.loc 2)] []) [⟨none, some 38, .load (some 5) false (.t 3)⟩,
 ⟨none, none, .store 5 none (.t 2) (.t 38)⟩])
  .ret)))))) .skip))
  (.seq (.reg (.mk [0, 2, 4] [(.par 0), (.loc 2), (.loc 4)] []) [⟨none, some 39, .mv none (.t 0)⟩,
 ⟨none, some 40, .call [none] none 0 170 [(.t 39)]⟩,
 ⟨none, some 4, .alloc [(.str []), (.str []), (.own 5 []), (.own 6 []), (.int .i64 0)]⟩,
 ⟨none, none, .store 5 none (.t 4) (.t 40)⟩])
  (.seq (.block 0 (.loop (.mk [0, 2, 4] [(.par 0), (.loc 2), (.loc 4)] []) (.seq (.seq (.reg (.mk [0, 2, 4, 46] [(.par 0), (.loc 2), (.loc 4)] []) [⟨none, some 41, .mv none (.t 0)⟩,
 ⟨none, some 42, .call [none, none, none] none 0 44 [(.t 41), (.v (.int .i64 0)), (.v (.str [46]))]⟩,
 ⟨none, some 43, .mv none (.t 42)⟩,
 ⟨some (43, false), some 44, .mv none (.t 0)⟩,
 ⟨some (43, false), some 45, .call [none, none, none] none 0 44 [(.t 44), (.v (.int .i64 0)), (.v (.str [91]))]⟩,
 ⟨none, some 46, .pick (.t 43) (.v (.bool true)) (.t 45)⟩])
  (.cond (.t 46) .skip (.exit 0)))
  (.block 1 (.seq (.reg (.mk [0, 2, 4, 5] [(.par 0), (.loc 2), (.loc 4), (.loc 5)] []) [⟨none, some 47, .mv none (.t 0)⟩,
 ⟨none, some 48, .call [none] none 0 67 [(.t 47)]⟩,
 ⟨none, some 49, .build [(0, 1), (1, 1), (2, 1), (3, 1), (4, 1)] [(.str []), (.str []), (.own 5 []), (.own 6 []), (.int .i64 0)] [0, 4] [(.v (.str [105, 110, 100, 101, 120])), (.t 48)]⟩,
 ⟨none, some 5, .alloc [(.str []), (.str []), (.own 5 []), (.own 6 []), (.int .i64 0)]⟩,
 ⟨none, none, .store 5 none (.t 5) (.t 49)⟩])
  (.seq (.seq (.reg (.mk [0, 2, 4, 5, 51] [(.par 0), (.loc 2), (.loc 4), (.loc 5)] []) [⟨none, some 50, .mv none (.t 0)⟩,
 ⟨none, some 51, .call [none, none] none 0 69 [(.t 50), (.v (.str [91]))]⟩])
  (.cond (.t 51) (.seq (.regD (.mk [0, 2, 4, 5] [(.par 0), (.loc 2), (.loc 4), (.loc 5)] []) [(0, 1), (0, 2)] [⟨none, some 52, .load (some 5) false (.t 4)⟩,
 ⟨none, some 53, .mv none (.t 0)⟩,
 ⟨none, some 54, .call [none] none 0 102 [(.t 53)]⟩,
 ⟨none, some 55, .buildSl 5 [(.t 52), (.t 54)]⟩,
 ⟨none, some 56, .fa 2 (.t 5)⟩,
 ⟨none, none, .store 1 (some 5) (.t 56) (.t 55)⟩])
  (.seq (.reg (.mk [0, 2, 4, 5] [(.par 0), (.loc 2), (.loc 4), (.loc 5)] []) [⟨none, some 57, .mv none (.t 0)⟩,
 ⟨none, some 58, .call [none, none] none 0 47 [(.t 57), (.v (.str [93]))]⟩])
  (.seq (.reg (.mk [0, 2, 4] [(.par 0), (.loc 2), (.loc 4)] []) [⟨none, some 59, .load (some 5) false (.t 5)⟩,
 ⟨none, none, .store 5 none (.t 4) (.t 59)⟩])
  (.exit 1)))) .skip))
  (.seq (.reg (.mk [0, 2, 4, 5] [(.par 0), (.loc 2), (.loc 4), (.loc 5)] []) [⟨none, some 60, .mv none (.t 0)⟩,
 ⟨none, some 61, .nilc (.t 60)⟩,
 ⟨none, some 62, .fa 1 (.t 61)⟩,
 ⟨none, some 63, .load none false (.t 62)⟩,
 ⟨none, some 64, .bin [] .add (.t 63) (.v (.int .i64 1))⟩,
 ⟨none, some 65, .nilc (.t 60)⟩,
 ⟨none, some 66, .fa 1 (.t 65)⟩,
 ⟨none, none, .store 1 none (.t 66) (.t 64)⟩])
  (.seq (.reg (.mk [0, 2, 4, 5] [(.par 0), (.loc 2), (.loc 4), (.loc 5)] []) [⟨none, some 67, .mv none (.t 0)⟩,
 ⟨none, some 68, .call [none] none 0 67 [(.t 67)]⟩,
 ⟨none, some 69, .build [(0, 1), (1, 1), (2, 1), (3, 1), (4, 1)] [(.str []), (.str []), (.own 5 []), (.own 6 []), (.int .i64 0)] [0, 4] [(.v (.str [102, 105, 101, 108, 100])), (.t 68)]⟩,
 ⟨none, none, .store 5 none (.t 5) (.t 69)⟩])
  (.seq (.reg (.mk [0, 2, 4, 5] [(.par 0), (.loc 2), (.loc 4), (.loc 5)] []) [⟨none, some 70, .mv none (.t 0)⟩,
 ⟨none, some 71, .call [none] none 0 68 [(.t 70)]⟩,
 ⟨none, some 72, .fa 1 (.t 5)⟩,
 ⟨none, none, .store 1 none (.t 72) (.t 71)⟩])
  (.seq (.reg (.mk [0, 2, 4, 5] [(.par 0), (.loc 2), (.loc 4), (.loc 5)] []) [⟨none, some 73, .load (some 5) false (.t 4)⟩,
 ⟨none, some 74, .buildSl 5 [(.t 73)]⟩,
 ⟨none, some 75, .fa 2 (.t 5)⟩,
 ⟨none, none, .store 1 (some 5) (.t 75) (.t 74)⟩])
  (.seq (.seq (.reg (.mk [0, 2, 4, 5, 77] [(.par 0), (.loc 2), (.loc 4), (.loc 5)] []) [⟨none, some 76, .mv none (.t 0)⟩,
 ⟨none, some 77, .call [none, none] none 0 69 [(.t 76), (.v (.str [40]))]⟩])
  (.cond (.t 77) (.seq (.reg (.mk [0, 2, 4, 5] [(.par 0), (.loc 2), (.loc 4), (.loc 5)] []) [⟨none, some 78, .fa 0 (.t 5)⟩,
 ⟨none, none, .store 1 none (.t 78) (.v (.str [99, 97, 108, 108]))⟩])
  (.regD (.mk [0, 2, 4, 5] [(.par 0), (.loc 2), (.loc 4), (.loc 5)] []) [(0, 2), (1, 2), (0, 3), (1, 3)] [⟨none, some 79, .fa 2 (.t 5)⟩,
 ⟨none, some 80, .load none true (.t 79)⟩,
 ⟨none, some 81, .mv none (.t 0)⟩,
 ⟨none, some 82, .call [none] none 0 104 [(.t 81)]⟩,
 ⟨none, some 83, .app 5 88 (.t 80) (.t 82)⟩,
 ⟨none, some 84, .fa 2 (.t 5)⟩,
 ⟨none, none, .store 1 (some 5) (.t 84) (.t 83)⟩])) .skip))
  (.reg (.mk [0, 2, 4] [(.par 0), (.loc 2), (.loc 4)] []) [⟨none, some 85, .load (some 5) false (.t 5)⟩,
 ⟨none, none, .store 5 none (.t 4) (.t 85)⟩]))))))))))))
  (.seq (.reg (.mk [2] [(.par 0), (.loc 2)] []) [⟨none, some 86, .load (some 5) false (.t 4)⟩,
 ⟨none, none, .store 5 none (.t 2) (.t 86)⟩])
  .ret)))))
theorem k158 {B : Heap} {args : List V} {objs : List Ob} {S : Post} (h : acwp (COk Tryz.prog B) c158 (initSt args objs) (EndP (tabT tab) [.cell 2 63] objs.length (mvOf args objs) [] S)) (hn : args.length ≤ Tryz.f158.ntmps := by exact Nat.le_of_ble_eq_true rfl) : CallS Tryz.prog B (mvOf args objs) 158 args objs S :=
  callSB tabOk mixed Tryz.func158 Tryz.call158 (hints [] [([0, 2], [.par 0, .loc 2]), ([], [.par 0]), ([0, 2, 11], [.par 0, .loc 2]), ([], [.par 0]), ([0, 2, 3], [.par 0, .loc 2, .loc 3]), ([], [.par 0]), ([0, 2, 3, 16], [.par 0, .loc 2, .loc 3]), ([], [.par 0]), ([0, 2, 3], [.par 0, .loc 2, .loc 3]), ([], [.par 0]), ([0, 2, 3], [.par 0, .loc 2, .loc 3]), ([], [.par 0]), ([0, 2, 3, 26], [.par 0, .loc 2, .loc 3]), ([], [.par 0]), ([0, 2, 3], [.par 0, .loc 2, .loc 3]), ([], [.par 0]), ([2, 3], [.par 0, .loc 2, .loc 3]), ([], [.par 0]), ([2], [.par 0, .loc 2]), ([], [.par 0]), ([0, 2, 4], [.par 0, .loc 2, .loc 4]), ([], [.par 0]), ([0, 2, 4, 46], [.par 0, .loc 2, .loc 4]), ([0, 2, 4], [.par 0, .loc 2, .loc 4]), ([0, 2, 4, 5], [.par 0, .loc 2, .loc 4, .loc 5]), ([], [.par 0]), ([0, 2, 4, 5, 51], [.par 0, .loc 2, .loc 4, .loc 5]), ([], [.par 0]), ([0, 2, 4, 5], [.par 0, .loc 2, .loc 4, .loc 5]), ([], [.par 0]), ([0, 2, 4, 5], [.par 0, .loc 2, .loc 4, .loc 5]), ([], [.par 0]), ([0, 2, 4], [.par 0, .loc 2, .loc 4]), ([], [.par 0]), ([0, 2, 4, 5], [.par 0, .loc 2, .loc 4, .loc 5]), ([], [.par 0]), ([0, 2, 4, 5], [.par 0, .loc 2, .loc 4, .loc 5]), ([], [.par 0]), ([0, 2, 4, 5], [.par 0, .loc 2, .loc 4, .loc 5]), ([], [.par 0]), ([0, 2, 4, 5], [.par 0, .loc 2, .loc 4, .loc 5]), ([], [.par 0]), ([0, 2, 4, 5, 77], [.par 0, .loc 2, .loc 4, .loc 5]), ([], [.par 0]), ([0, 2, 4, 5], [.par 0, .loc 2, .loc 4, .loc 5]), ([], [.par 0]), ([0, 2, 4, 5], [.par 0, .loc 2, .loc 4, .loc 5]), ([], [.par 0]), ([0, 2, 4], [.par 0, .loc 2, .loc 4]), ([], [.par 0]), ([2], [.par 0, .loc 2]), ([], [.par 0])]) ⟨[2], [], [], []⟩ (by kernel_rfl) rfl rfl (by decide) hn h
def c159 : AC :=
  (.seq (.reg (.mk [0, 1] [(.par 0)] []) [⟨none, some 4, .mvS none (.v (.str []))⟩])
  (.seq (.seq (.regD (.mk [0, 37] [(.par 0)] []) [(6, 10), (7, 10), (8, 10), (9, 10), (6, 11), (7, 11), (8, 11), (9, 11), (6, 12), (7, 12), (8, 12), (9, 12), (6, 13), (7, 13), (8, 13), (9, 13), (6, 14), (7, 14), (8, 14), (9, 14), (18, 22), (19, 22), (20, 22), (21, 22), (18, 23), (19, 23), (20, 23), (21, 23), (18, 24), (19, 24), (20, 24), (21, 24), (18, 25), (19, 25), (20, 25), (21, 25), (18, 30), (19, 30), (20, 30), (21, 30), (22, 30), (23, 30), (24, 30), (25, 30), (26, 30), (27, 30), (28, 30), (29, 30)] [⟨none, some 5, .mv none (.t 0)⟩,
 ⟨none, some 6, .nilc (.t 5)⟩,
 ⟨none, some 7, .fa 4 (.t 6)⟩,
 ⟨none, some 8, .load none false (.t 7)⟩,
 ⟨none, some 9, .bin [] .eql (.t 8) (.v (.int .i64 0))⟩,
 ⟨none, some 10, .mv none (.t 9)⟩,
 ⟨some (10, true), some 11, .mv none (.t 0)⟩,
 ⟨some (10, true), some 12, .nilc (.t 11)⟩,
 ⟨some (10, true), some 13, .fa 1 (.t 12)⟩,
 ⟨some (10, true), some 14, .load none false (.t 13)⟩,
 ⟨some (10, true), some 15, .mv none (.t 0)⟩,
 ⟨some (10, true), some 16, .nilc (.t 15)⟩,
 ⟨some (10, true), some 17, .fa 0 (.t 16)⟩,
 ⟨some (10, true), some 18, .load none false (.t 17)⟩,
 ⟨some (10, true), some 19, .lenSl (.t 18)⟩,
 ⟨some (10, true), some 20, .bin [] .lss (.t 14) (.t 19)⟩,
 ⟨none, some 21, .pick (.t 10) (.t 20) (.v (.bool false))⟩,
 ⟨none, some 22, .mv none (.t 21)⟩,
 ⟨some (22, true), some 23, .mv none (.t 0)⟩,
 ⟨some (22, true), some 24, .nilc (.t 23)⟩,
 ⟨some (22, true), some 25, .fa 0 (.t 24)⟩,
 ⟨some (22, true), some 26, .load none false (.t 25)⟩,
 ⟨some (22, true), some 27, .mv none (.t 0)⟩,
 ⟨some (22, true), some 28, .nilc (.t 27)⟩,
 ⟨some (22, true), some 29, .fa 1 (.t 28)⟩,
 ⟨some (22, true), some 30, .load none false (.t 29)⟩,
 ⟨some (22, true), some 31, .ia (some 3) none (.t 26) (.t 30)⟩,
 ⟨some (22, true), some 32, .fa 1 (.t 31)⟩,
 ⟨some (22, true), some 33, .load none false (.t 32)⟩,
 ⟨some (22, true), some 34, .call [none] none 0 171 [(.t 33)]⟩,
 ⟨some (22, true), some 35, .mv none (.t 1)⟩,
 ⟨some (22, true), some 36, .bin [] .eql (.t 34) (.t 35)⟩,
 ⟨none, some 37, .pick (.t 22) (.t 36) (.v (.bool false))⟩])
  (.cond (.t 37) (.seq (.regD (.mk [4] [(.par 0)] []) [(0, 4), (1, 4), (2, 4), (3, 4), (0, 5), (1, 5), (2, 5), (3, 5), (0, 6), (1, 6), (2, 6), (3, 6), (0, 7), (1, 7), (2, 7)] [⟨none, some 38, .mv none (.t 0)⟩,
 ⟨none, some 39, .nilc (.t 38)⟩,
 ⟨none, some 40, .fa 0 (.t 39)⟩,
 ⟨none, some 41, .load none false (.t 40)⟩,
 ⟨none, some 42, .mv none (.t 0)⟩,
 ⟨none, some 43, .nilc (.t 42)⟩,
 ⟨none, some 44, .fa 1 (.t 43)⟩,
 ⟨none, some 45, .load none false (.t 44)⟩,
 ⟨none, some 46, .ia (some 3) none (.t 41) (.t 45)⟩,
 ⟨none, some 47, .fa 1 (.t 46)⟩,
 ⟨none, some 48, .load none true (.t 47)⟩,
 ⟨none, some 4, .mvS none (.t 48)⟩])
  .ret) .skip))
  (.seq (.reg (.mk [4] [(.par 0)] []) [⟨none, some 4, .mvS none (.v (.str []))⟩])
  .ret)))
theorem k159 {B : Heap} {args : List V} {objs : List Ob} {S : Post} (h : acwp (COk Tryz.prog B) c159 (initSt args objs) (EndP (tabT tab) [.tmp 4] objs.length (mvOf args objs) [] S)) (hn : args.length ≤ Tryz.f159.ntmps := by exact Nat.le_of_ble_eq_true rfl) : CallS Tryz.prog B (mvOf args objs) 159 args objs S :=
  callSB tabOk mixed Tryz.func159 Tryz.call159 (hints [] [([0, 1], [.par 0]), ([], [.par 0]), ([0, 37], [.par 0]), ([], [.par 0]), ([4], [.par 0]), ([], [.par 0]), ([4], [.par 0]), ([], [.par 0])]) ⟨[4], [], [], []⟩ (by kernel_rfl) rfl rfl (by decide) hn h
def c170 : AC :=
  (.seq (.reg (.mk [0, 2] [(.par 0), (.loc 2)] []) [⟨none, some 2, .alloc [(.str []), (.str []), (.own 5 []), (.own 6 []), (.int .i64 0)]⟩])
  (.seq (.reg (.mk [0, 2, 3] [(.par 0), (.loc 2), (.loc 3)] []) [⟨none, some 6, .mv none (.t 0)⟩,
 ⟨none, some 7, .call [none] none 0 67 [(.t 6)]⟩,
 ⟨none, some 8, .build [(0, 1), (1, 1), (2, 1), (3, 1), (4, 1)] [(.str []), (.str []), (.own 5 []), (.own 6 []), (.int .i64 0)] [4] [(.t 7)]⟩,
 ⟨none, some 3, .alloc [(.str []), (.str []), (.own 5 []), (.own 6 []), (.int .i64 0)]⟩,
 ⟨none, none, .store 5 none (.t 3) (.t 8)⟩])
  (.seq (.seq (.regD (.mk [0, 2, 3, 25] [(.par 0), (.loc 2), (.loc 3)] []) [(6, 10), (7, 10), (8, 10), (9, 10), (6, 11), (7, 11), (8, 11), (9, 11), (6, 12), (7, 12), (8, 12), (9, 12), (6, 13), (7, 13), (8, 13), (9, 13), (6, 14), (7, 14), (8, 14), (9, 14)] [⟨none, some 9, .mv none (.t 0)⟩,
 ⟨none, some 10, .nilc (.t 9)⟩,
 ⟨none, some 11, .fa 4 (.t 10)⟩,
 ⟨none, some 12, .load none false (.t 11)⟩,
 ⟨none, some 13, .bin [] .neq (.t 12) (.v (.int .i64 0))⟩,
 ⟨none, some 14, .mv none (.t 13)⟩,
 ⟨some (14, false), some 15, .mv none (.t 0)⟩,
 ⟨some (14, false), some 16, .nilc (.t 15)⟩,
 ⟨some (14, false), some 17, .fa 1 (.t 16)⟩,
 ⟨some (14, false), some 18, .load none false (.t 17)⟩,
 ⟨some (14, false), some 19, .mv none (.t 0)⟩,
 ⟨some (14, false), some 20, .nilc (.t 19)⟩,
 ⟨some (14, false), some 21, .fa 0 (.t 20)⟩,
 ⟨some (14, false), some 22, .load none false (.t 21)⟩,
 ⟨some (14, false), some 23, .lenSl (.t 22)⟩,
 ⟨some (14, false), some 24, .bin [] .geq (.t 18) (.t 23)⟩,
 ⟨none, some 25, .pick (.t 14) (.v (.bool true)) (.t 24)⟩])
  (.cond (.t 25) (.seq (.reg (.mk [2, 3] [(.par 0), (.loc 2), (.loc 3)] []) [⟨none, some 26, .mv none (.t 0)⟩,
 ⟨none, some 27, .call [none, none] none 0 49 [(.t 26), (.v (.int .i64 110))]⟩])
  (.seq (.reg (.mk [2] [(.par 0), (.loc 2)] []) [⟨none, some 28, .load (some 5) false (.t 3)⟩,
 ⟨none, none, .store 5 none (.t 2) (.t 28)⟩])
  .ret)) .skip))
  (.seq (.regD (.mk [0, 2, 3, 4] [(.par 0), (.loc 2), (.loc 3), (.loc 4)] []) [(0, 4), (1, 4), (2, 4), (3, 4), (0, 5), (1, 5), (2, 5), (3, 5), (0, 6), (1, 6), (2, 6), (3, 6), (0, 7), (1, 7), (2, 7), (0, 10), (1, 10), (2, 10), (3, 10), (4, 10), (5, 10), (6, 10), (7, 10), (8, 10), (9, 10)] [⟨none, some 29, .mv none (.t 0)⟩,
 ⟨none, some 30, .nilc (.t 29)⟩,
 ⟨none, some 31, .fa 0 (.t 30)⟩,
 ⟨none, some 32, .load none false (.t 31)⟩,
 ⟨none, some 33, .mv none (.t 0)⟩,
 ⟨none, some 34, .nilc (.t 33)⟩,
 ⟨none, some 35, .fa 1 (.t 34)⟩,
 ⟨none, some 36, .load none false (.t 35)⟩,
 ⟨none, some 37, .ia (some 3) none (.t 32) (.t 36)⟩,
 ⟨none, some 38, .load (some 3) false (.t 37)⟩,
 ⟨none, some 4, .alloc [(.int .i64 0), (.str []), (.int .i64 0)]⟩,
 ⟨none, none, .store 3 none (.t 4) (.t 38)⟩])
  (.seq (.reg (.mk [0, 2, 3, 4] [(.par 0), (.loc 2), (.loc 3), (.loc 4)] []) [⟨none, some 39, .mv none (.t 0)⟩,
 ⟨none, some 40, .nilc (.t 39)⟩,
 ⟨none, some 41, .fa 1 (.t 40)⟩,
 ⟨none, some 42, .load none false (.t 41)⟩,
 ⟨none, some 43, .bin [] .add (.t 42) (.v (.int .i64 1))⟩,
 ⟨none, some 44, .nilc (.t 39)⟩,
 ⟨none, some 45, .fa 1 (.t 44)⟩,
 ⟨none, none, .store 1 none (.t 45) (.t 43)⟩])
  (.seq (.block 0 (.seq (.reg (.mk [0, 2, 3, 4, 57] [(.par 0), (.loc 2), (.loc 3), (.loc 4)] []) [⟨none, some 58, .fa 0 (.t 4)⟩,
 ⟨none, some 59, .load none false (.t 58)⟩,
 ⟨none, some 60, .bin [] .eql (.t 59) (.v (.int .i64 2))⟩,
 ⟨none, some 57, .mvS none (.t 60)⟩])
  (.cond (.t 57) (.regD (.mk [2, 3] [(.par 0), (.loc 2), (.loc 3)] []) [(0, 2), (1, 2), (0, 3), (1, 3)] [⟨none, some 61, .fa 1 (.t 4)⟩,
 ⟨none, some 62, .load none false (.t 61)⟩,
 ⟨none, some 63, .fa 0 (.t 3)⟩,
 ⟨none, none, .store 1 none (.t 63) (.v (.str [110, 117, 109]))⟩,
 ⟨none, some 64, .fa 1 (.t 3)⟩,
 ⟨none, none, (.store 1 none (.t 64) (.t 62))⟩]) (.seq (.reg (.mk [0, 2, 3, 4, 65] [(.par 0), (.loc 2), (.loc 3), (.loc 4)] []) [⟨none, (some 66), (.fa 1 (.t 4))⟩,
 ⟨none, some 67, .load none false (.t 66)⟩,
 ⟨none, some 68, .bin [] .eql (.t 67) (.v (.str [116, 114, 117, 101]))⟩,
 ⟨none, some 69, .mv none (.t 68)⟩,
 ⟨some (69, false), some 70, .fa 1 (.t 4)⟩,
 ⟨some (69, false), some 71, .load none false (.t 70)⟩,
 ⟨some (69, false), some 72, .bin [] .eql (.t 71) (.v (.str [102, 97, 108, 115, 101]))⟩,
 ⟨none, some 73, .pick (.t 69) (.v (.bool true)) (.t 72)⟩,
 ⟨none, some 74, .mv none (.t 73)⟩,
 ⟨some (74, false), some 75, .fa 1 (.t 4)⟩,
 ⟨some (74, false), some 76, .load none false (.t 75)⟩,
 ⟨some (74, false), some 77, .bin [] .eql (.t 76) (.v (.str [110, 117, 108, 108]))⟩,
 ⟨none, some 78, .pick (.t 74) (.v (.bool true)) (.t 77)⟩,
 ⟨none, some 79, .mv none (.t 78)⟩,
 ⟨some (79, false), some 80, .fa 1 (.t 4)⟩,
 ⟨some (79, false), some 81, .load none false (.t 80)⟩,
 ⟨some (79, false), some 82, .bin [] .eql (.t 81) (.v (.str [116, 104, 105, 115]))⟩,
 ⟨none, some 83, .pick (.t 79) (.v (.bool true)) (.t 82)⟩,
 ⟨none, some 65, .mvS none (.t 83)⟩])
  (.cond (.t 65) (.reg (.mk [2, 3] [(.par 0), (.loc 2), (.loc 3)] []) [⟨none, some 84, .fa 1 (.t 4)⟩,
 ⟨none, some 85, .load none false (.t 84)⟩,
 ⟨none, some 86, .fa 0 (.t 3)⟩,
 ⟨none, none, (.store 1 none (.t 86) (.t 85))⟩]) (.seq (.reg (.mk [0, 2, 3, 4, 87] [(.par 0), (.loc 2), (.loc 3), (.loc 4)] []) [⟨none, (some 88), (.fa 1 (.t 4))⟩,
 ⟨none, some 89, .load none false (.t 88)⟩,
 ⟨none, some 90, .bin [] .eql (.t 89) (.v (.str [40]))⟩,
 ⟨none, some 87, .mvS none (.t 90)⟩])
  (.cond (.t 87) (.seq (.reg (.mk [0, 2, 3] [(.par 0), (.loc 2), (.loc 3)] []) [⟨none, some 91, .mv none (.t 0)⟩,
 ⟨none, some 92, .call [none] none 0 102 [(.t 91)]⟩,
 ⟨none, none, .store 5 none (.t 3) (.t 92)⟩])
  (.reg (.mk [2, 3] [(.par 0), (.loc 2), (.loc 3)] []) [⟨none, some 93, .mv none (.t 0)⟩,
 ⟨none, some 94, (.call [none, none] none 0 47 [(.t 93), (.v (.str [41]))])⟩])) (.seq (.reg (.mk [0, 2, 3, 4, 95] [(.par 0), (.loc 2), (.loc 3), (.loc 4)] []) [⟨none, (some 96), (.fa 1 (.t 4))⟩,
 ⟨none, some 97, .load none false (.t 96)⟩,
 ⟨none, some 98, .bin [] .eql (.t 97) (.v (.str [110, 101, 119]))⟩,
 ⟨none, some 95, .mvS none (.t 98)⟩])
  (.cond (.t 95) (.seq (.reg (.mk [0, 2, 3] [(.par 0), (.loc 2), (.loc 3)] []) [⟨none, some 99, .fa 0 (.t 3)⟩,
 ⟨none, none, .store 1 none (.t 99) (.v (.str [110, 101, 119]))⟩])
  (.seq (.reg (.mk [0, 2, 3] [(.par 0), (.loc 2), (.loc 3)] []) [⟨none, some 100, .mv none (.t 0)⟩,
 ⟨none, some 101, .call [none] none 0 68 [(.t 100)]⟩,
 ⟨none, some 102, .fa 1 (.t 3)⟩,
 ⟨none, none, .store 1 none (.t 102) (.t 101)⟩])
  (.seq (.reg (.mk [0, 2, 3] [(.par 0), (.loc 2), (.loc 3)] []) [⟨none, some 103, .mv none (.t 0)⟩,
 ⟨none, some 104, .call [none, none] none 0 47 [(.t 103), (.v (.str [40]))]⟩])
  (.reg (.mk [2, 3] [(.par 0), (.loc 2), (.loc 3)] []) [⟨none, some 105, .mv none (.t 0)⟩,
 ⟨none, some 106, .call [none] none 0 104 [(.t 105)]⟩,
 ⟨none, some 107, .fa 2 (.t 3)⟩,
 ⟨none, none, (.store 1 (some 5) (.t 107) (.t 106))⟩])))) (.seq (.reg (.mk [0, 2, 3, 4, 108] [(.par 0), (.loc 2), (.loc 3), (.loc 4)] []) [⟨none, (some 109), (.fa 1 (.t 4))⟩,
 ⟨none, some 110, .load none false (.t 109)⟩,
 ⟨none, some 111, .bin [] .eql (.t 110) (.v (.str [108, 105, 115, 116]))⟩,
 ⟨none, some 108, .mvS none (.t 111)⟩])
  (.cond (.t 108) (.seq (.reg (.mk [0, 2, 3] [(.par 0), (.loc 2), (.loc 3)] []) [⟨none, some 112, .fa 0 (.t 3)⟩,
 ⟨none, none, .store 1 none (.t 112) (.v (.str [108, 105, 115, 116]))⟩])
  (.seq (.reg (.mk [0, 2, 3] [(.par 0), (.loc 2), (.loc 3)] []) [⟨none, some 113, .mv none (.t 0)⟩,
 ⟨none, some 114, .call [none] none 0 101 [(.t 113)]⟩,
 ⟨none, some 115, .buildSl 6 [(.t 114)]⟩,
 ⟨none, some 116, .fa 3 (.t 3)⟩,
 ⟨none, none, .store 1 (some 6) (.t 116) (.t 115)⟩])
  (.seq (.reg (.mk [0, 2, 3] [(.par 0), (.loc 2), (.loc 3)] []) [⟨none, some 117, .mv none (.t 0)⟩,
 ⟨none, some 118, .call [none, none] none 0 47 [(.t 117), (.v (.str [40]))]⟩])
  (.seq (.reg (.mk [0, 2, 3, 5] [(.par 0), (.loc 2), (.loc 3), (.loc 5)] []) [⟨none, some 119, .mv none (.t 0)⟩,
 ⟨none, some 120, .call [none] none 0 102 [(.t 119)]⟩,
 ⟨none, some 5, .alloc [(.str []), (.str []), (.own 5 []), (.own 6 []), (.int .i64 0)]⟩,
 ⟨none, none, .store 5 none (.t 5) (.t 120)⟩])
  (.seq (.reg (.mk [0, 2, 3, 5] [(.par 0), (.loc 2), (.loc 3), (.loc 5)] []) [⟨none, some 121, .mv none (.t 0)⟩,
 ⟨none, some 122, .call [none, none] none 0 47 [(.t 121), (.v (.str [44]))]⟩])
  (.seq (.regD (.mk [0, 2, 3] [(.par 0), (.loc 2), (.loc 3)] []) [(0, 1), (0, 2)] [⟨none, some 123, .load (some 5) false (.t 5)⟩,
 ⟨none, some 124, .mv none (.t 0)⟩,
 ⟨none, some 125, .call [none] none 0 102 [(.t 124)]⟩,
 ⟨none, some 126, .buildSl 5 [(.t 123), (.t 125)]⟩,
 ⟨none, some 127, .fa 2 (.t 3)⟩,
 ⟨none, none, .store 1 (some 5) (.t 127) (.t 126)⟩])
  (.reg (.mk [2, 3] [(.par 0), (.loc 2), (.loc 3)] []) [⟨none, some 128, .mv none (.t 0)⟩,
 ⟨none, some 129, (.call [none, none] none 0 47 [(.t 128), (.v (.str [41]))])⟩]))))))) (.seq (.reg (.mk [0, 2, 3, 4, 130] [(.par 0), (.loc 2), (.loc 3), (.loc 4)] []) [⟨none, (some 131), (.fa 1 (.t 4))⟩,
 ⟨none, some 132, .load none false (.t 131)⟩,
 ⟨none, some 133, .bin [] .eql (.t 132) (.v (.str [108, 101, 110]))⟩,
 ⟨none, some 130, .mvS none (.t 133)⟩])
  (.cond (.t 130) (.seq (.reg (.mk [0, 2, 3] [(.par 0), (.loc 2), (.loc 3)] []) [⟨none, some 134, .fa 0 (.t 3)⟩,
 ⟨none, none, .store 1 none (.t 134) (.v (.str [108, 101, 110]))⟩])
  (.seq (.reg (.mk [0, 2, 3] [(.par 0), (.loc 2), (.loc 3)] []) [⟨none, some 135, .mv none (.t 0)⟩,
 ⟨none, some 136, .call [none, none] none 0 47 [(.t 135), (.v (.str [40]))]⟩])
  (.seq (.reg (.mk [0, 2, 3] [(.par 0), (.loc 2), (.loc 3)] []) [⟨none, some 137, .mv none (.t 0)⟩,
 ⟨none, some 138, .call [none] none 0 102 [(.t 137)]⟩,
 ⟨none, some 139, .buildSl 5 [(.t 138)]⟩,
 ⟨none, some 140, .fa 2 (.t 3)⟩,
 ⟨none, none, .store 1 (some 5) (.t 140) (.t 139)⟩])
  (.reg (.mk [2, 3] [(.par 0), (.loc 2), (.loc 3)] []) [⟨none, some 141, .mv none (.t 0)⟩,
 ⟨none, some 142, (.call [none, none] none 0 47 [(.t 141), (.v (.str [41]))])⟩])))) (.seq (.reg (.mk [0, 2, 3, 143] [(.par 0), (.loc 2), (.loc 3)] []) [⟨none, (some 144), (.fa 1 (.t 4))⟩,
 ⟨none, some 145, .load none false (.t 144)⟩,
 ⟨none, some 146, .bin [] .eql (.t 145) (.v (.str [114, 101, 97, 100]))⟩,
 ⟨none, some 143, .mvS none (.t 146)⟩])
  (.cond (.t 143) (.seq (.reg (.mk [0, 2, 3] [(.par 0), (.loc 2), (.loc 3)] []) [⟨none, some 147, .fa 0 (.t 3)⟩,
 ⟨none, none, .store 1 none (.t 147) (.v (.str [114, 101, 97, 100]))⟩])
  (.seq (.reg (.mk [0, 2, 3] [(.par 0), (.loc 2), (.loc 3)] []) [⟨none, some 148, .mv none (.t 0)⟩,
 ⟨none, some 149, .call [none, none] none 0 47 [(.t 148), (.v (.str [40]))]⟩])
  (.reg (.mk [2, 3] [(.par 0), (.loc 2), (.loc 3)] []) [⟨none, some 150, .mv none (.t 0)⟩,
 ⟨none, some 151, (.call [none, none] none 0 47 [(.t 150), (.v (.str [41]))])⟩]))) (.seq (.reg (.mk [0, 2, 3] [(.par 0), (.loc 2), (.loc 3)] []) [⟨none, (some 46), (.mv none (.t 0))⟩,
 ⟨none, some 47, .nilc (.t 46)⟩,
 ⟨none, some 48, .fa 1 (.t 47)⟩,
 ⟨none, some 49, .load none false (.t 48)⟩,
 ⟨none, some 50, .bin [] .sub (.t 49) (.v (.int .i64 1))⟩,
 ⟨none, some 51, .nilc (.t 46)⟩,
 ⟨none, some 52, .fa 1 (.t 51)⟩,
 ⟨none, none, .store 1 none (.t 52) (.t 50)⟩])
  (.seq (.reg (.mk [0, 2, 3] [(.par 0), (.loc 2), (.loc 3)] []) [⟨none, some 53, .fa 0 (.t 3)⟩,
 ⟨none, none, .store 1 none (.t 53) (.v (.str [118, 97, 114]))⟩])
  (.reg (.mk [2, 3] [(.par 0), (.loc 2), (.loc 3)] []) [⟨none, some 54, .mv none (.t 0)⟩,
 ⟨none, some 55, .call [none] none 0 68 [(.t 54)]⟩,
 ⟨none, some 56, .fa 1 (.t 3)⟩,
 ⟨none, none, .store 1 none (.t 56) (.t 55)⟩]))))))))))))))))))
  (.seq (.reg (.mk [2] [(.par 0), (.loc 2)] []) [⟨none, some 152, .load (some 5) false (.t 3)⟩,
 ⟨none, none, .store 5 none (.t 2) (.t 152)⟩])
  .ret)))))))
theorem k170 {B : Heap} {args : List V} {objs : List Ob} {S : Post} (h : acwp (COk Tryz.prog B) c170 (initSt args objs) (EndP (tabT tab) [.cell 2 63] objs.length (mvOf args objs) [] S)) (hn : args.length ≤ Tryz.f170.ntmps := by exact Nat.le_of_ble_eq_true rfl) : CallS Tryz.prog B (mvOf args objs) 170 args objs S :=
  callSB tabOk mixed Tryz.func170 Tryz.call170 (hints [] [([0, 2], [.par 0, .loc 2]), ([], [.par 0]), ([0, 2, 3], [.par 0, .loc 2, .loc 3]), ([], [.par 0]), ([0, 2, 3, 25], [.par 0, .loc 2, .loc 3]), ([], [.par 0]), ([2, 3], [.par 0, .loc 2, .loc 3]), ([], [.par 0]), ([2], [.par 0, .loc 2]), ([], [.par 0]), ([0, 2, 3, 4], [.par 0, .loc 2, .loc 3, .loc 4]), ([], [.par 0]), ([0, 2, 3, 4], [.par 0, .loc 2, .loc 3, .loc 4]), ([], [.par 0]), ([0, 2, 3], [.par 0, .loc 2, .loc 3]), ([], [.par 0]), ([0, 2, 3], [.par 0, .loc 2, .loc 3]), ([], [.par 0]), ([2, 3], [.par 0, .loc 2, .loc 3]), ([], [.par 0]), ([0, 2, 3, 4, 57], [.par 0, .loc 2, .loc 3, .loc 4]), ([], [.par 0]), ([2, 3], [.par 0, .loc 2, .loc 3]), ([], [.par 0]), ([0, 2, 3, 4, 65], [.par 0, .loc 2, .loc 3, .loc 4]), ([], [.par 0]), ([2, 3], [.par 0, .loc 2, .loc 3]), ([], [.par 0]), ([0, 2, 3, 4, 87], [.par 0, .loc 2, .loc 3, .loc 4]), ([], [.par 0]), ([0, 2, 3], [.par 0, .loc 2, .loc 3]), ([], [.par 0]), ([2, 3], [.par 0, .loc 2, .loc 3]), ([], [.par 0]), ([0, 2, 3, 4, 95], [.par 0, .loc 2, .loc 3, .loc 4]), ([], [.par 0]), ([0, 2, 3], [.par 0, .loc 2, .loc 3]), ([], [.par 0]), ([0, 2, 3], [.par 0, .loc 2, .loc 3]), ([], [.par 0]), ([0, 2, 3], [.par 0, .loc 2, .loc 3]), ([], [.par 0]), ([2, 3], [.par 0, .loc 2, .loc 3]), ([], [.par 0]), ([0, 2, 3, 4, 108], [.par 0, .loc 2, .loc 3, .loc 4]), ([], [.par 0]), ([0, 2, 3], [.par 0, .loc 2, .loc 3]), ([], [.par 0]), ([0, 2, 3], [.par 0, .loc 2, .loc 3]), ([], [.par 0]), ([0, 2, 3], [.par 0, .loc 2, .loc 3]), ([], [.par 0]), ([0, 2, 3, 5], [.par 0, .loc 2, .loc 3, .loc 5]), ([], [.par 0]), ([0, 2, 3, 5], [.par 0, .loc 2, .loc 3, .loc 5]), ([], [.par 0]), ([0, 2, 3], [.par 0, .loc 2, .loc 3]), ([], [.par 0]), ([2, 3], [.par 0, .loc 2, .loc 3]), ([], [.par 0]), ([0, 2, 3, 4, 130], [.par 0, .loc 2, .loc 3, .loc 4]), ([], [.par 0]), ([0, 2, 3], [.par 0, .loc 2, .loc 3]), ([], [.par 0]), ([0, 2, 3], [.par 0, .loc 2, .loc 3]), ([], [.par 0]), ([0, 2, 3], [.par 0, .loc 2, .loc 3]), ([], [.par 0]), ([2, 3], [.par 0, .loc 2, .loc 3]), ([], [.par 0]), ([0, 2, 3, 143], [.par 0, .loc 2, .loc 3]), ([], [.par 0]), ([0, 2, 3], [.par 0, .loc 2, .loc 3]), ([], [.par 0]), ([0, 2, 3], [.par 0, .loc 2, .loc 3]), ([], [.par 0]), ([2, 3], [.par 0, .loc 2, .loc 3]), ([], [.par 0]), ([2], [.par 0, .loc 2]), ([], [.par 0])]) ⟨[2], [], [], []⟩ (by kernel_rfl) rfl rfl (by decide) hn h
def c171 : AC :=
  (.seq (.reg (.mk [0] [] []) [⟨none, some 2, .mvS none (.v (.int .i64 0))⟩])
  (.seq (.seq (.reg (.mk [3] [] []) [⟨none, some 3, .mv none (.t 0)⟩])
  (.block 0 (.seq (.reg (.mk [3, 4] [] []) [⟨none, some 5, .bin [] .eql (.t 3) (.v (.str [61, 62]))⟩,
 ⟨none, some 4, .mvS none (.t 5)⟩])
  (.cond (.t 4) (.seq (.reg (.mk [2] [] []) [⟨none, some 2, .mvS none (.v (.int .i64 0))⟩])
  .ret) (.seq (.reg (.mk [3, 6] [] []) [⟨none, some 7, .bin [] .eql (.t 3) (.v (.str [124, 124]))⟩,
 ⟨none, some 6, .mvS none (.t 7)⟩])
  (.cond (.t 6) (.seq (.reg (.mk [2] [] []) [⟨none, some 2, .mvS none (.v (.int .i64 1))⟩])
  .ret) (.seq (.reg (.mk [3, 8] [] []) [⟨none, some 9, .bin [] .eql (.t 3) (.v (.str [38, 38]))⟩,
 ⟨none, some 8, .mvS none (.t 9)⟩])
  (.cond (.t 8) (.seq (.reg (.mk [2] [] []) [⟨none, some 2, .mvS none (.v (.int .i64 2))⟩])
  .ret) (.seq (.seq (.reg (.mk [3, 10] [] []) [⟨none, some 11, .bin [] .eql (.t 3) (.v (.str [61, 61]))⟩,
 ⟨none, some 10, .mvS none (.t 11)⟩])
  (.cond (.t 10) .skip (.seq (.reg (.mk [3, 10] [] []) [⟨none, some 12, .bin [] .eql (.t 3) (.v (.str [33, 61]))⟩,
 ⟨none, some 10, .mvS none (.t 12)⟩])
  (.cond (.t 10) .skip (.seq (.reg (.mk [3, 10] [] []) [⟨none, some 13, .bin [] .eql (.t 3) (.v (.str [60]))⟩,
 ⟨none, some 10, .mvS none (.t 13)⟩])
  (.cond (.t 10) .skip (.seq (.reg (.mk [3, 10] [] []) [⟨none, some 14, .bin [] .eql (.t 3) (.v (.str [60, 61]))⟩,
 ⟨none, some 10, .mvS none (.t 14)⟩])
  (.cond (.t 10) .skip (.seq (.reg (.mk [3, 10] [] []) [⟨none, some 15, .bin [] .eql (.t 3) (.v (.str [62]))⟩,
 ⟨none, some 10, .mvS none (.t 15)⟩])
  (.cond (.t 10) .skip (.reg (.mk [3, 10] [] []) [⟨none, some 16, .bin [] .eql (.t 3) (.v (.str [62, 61]))⟩,
 ⟨none, some 10, .mvS none (.t 16)⟩])))))))))))
  (.cond (.t 10) (.seq (.reg (.mk [2] [] []) [⟨none, some 2, .mvS none (.v (.int .i64 3))⟩])
  .ret) (.seq (.seq (.reg (.mk [3, 17] [] []) [⟨none, some 18, .bin [] .eql (.t 3) (.v (.str [43]))⟩,
 ⟨none, some 17, .mvS none (.t 18)⟩])
  (.cond (.t 17) .skip (.reg (.mk [3, 17] [] []) [⟨none, some 19, .bin [] .eql (.t 3) (.v (.str [45]))⟩,
 ⟨none, some 17, .mvS none (.t 19)⟩])))
  (.cond (.t 17) (.seq (.reg (.mk [2] [] []) [⟨none, some 2, .mvS none (.v (.int .i64 4))⟩])
  .ret) (.seq (.seq (.reg (.mk [3, 20] [] []) [⟨none, some 21, .bin [] .eql (.t 3) (.v (.str [42]))⟩,
 ⟨none, some 20, .mvS none (.t 21)⟩])
  (.cond (.t 20) .skip (.seq (.reg (.mk [3, 20] [] []) [⟨none, some 22, .bin [] .eql (.t 3) (.v (.str [47]))⟩,
 ⟨none, some 20, .mvS none (.t 22)⟩])
  (.cond (.t 20) .skip (.reg (.mk [20] [] []) [⟨none, some 23, .bin [] .eql (.t 3) (.v (.str [37]))⟩,
 ⟨none, some 20, .mvS none (.t 23)⟩])))))
  (.cond (.t 20) (.seq (.reg (.mk [2] [] []) [⟨none, some 2, .mvS none (.v (.int .i64 5))⟩])
  .ret) .skip))))))))))))))
  (.seq (.reg (.mk [2] [] []) [⟨none, some 2, .mvS none (.v (.int .i64 (-1)))⟩])
  .ret)))
theorem k171 {B : Heap} {args : List V} {objs : List Ob} {S : Post} (h : acwp (COk Tryz.prog B) c171 (initSt args objs) (EndP (tabT tab) [.tmp 2] objs.length (mvOf args objs) [] S)) (hn : args.length ≤ Tryz.f171.ntmps := by exact Nat.le_of_ble_eq_true rfl) : CallS Tryz.prog B (mvOf args objs) 171 args objs S :=
  callSB tabOk mixed Tryz.func171 Tryz.call171 (hints [] [([0], []), ([], []), ([3], []), ([], []), ([3, 4], []), ([], []), ([2], []), ([], []), ([3, 6], []), ([], []), ([2], []), ([], []), ([3, 8], []), ([], []), ([2], []), ([], []), ([3, 10], []), ([], []), ([3, 10], []), ([], []), ([3, 10], []), ([], []), ([3, 10], []), ([], []), ([3, 10], []), ([], []), ([3, 10], []), ([], []), ([2], []), ([], []), ([3, 17], []), ([], []), ([3, 17], []), ([], []), ([2], []), ([], []), ([3, 20], []), ([], []), ([3, 20], []), ([], []), ([20], []), ([], []), ([2], []), ([], []), ([2], []), ([], [])]) ⟨[2], [], [], []⟩ (by kernel_rfl) rfl rfl (by decide) hn h
end Go.Proofs.YtcdoebbffjejeaaGreatDoor
