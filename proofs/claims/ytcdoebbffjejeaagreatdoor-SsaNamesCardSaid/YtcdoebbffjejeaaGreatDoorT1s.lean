/- A part of the proof of a law of this seat: no condition. -/
import Derived.Test.YtcdoebbffjejeaaGreatDoorA6
import Derived.Test.YtcdoebbffjejeaaGreatDoorChecked
set_option linter.unusedVariables false
namespace Go.Proofs.YtcdoebbffjejeaaGreatDoor
open Go.Ax
def tab : List (Nat × TI) :=
  [(3, ⟨1, 8, false, [.int .i64 0], none, [], false, [], [], none, none, some .i64, false, false, []⟩),
   (4, ⟨1, 1, false, [.bool false], none, [], false, [1], [], none, none, none, false, false, []⟩),
   (5, ⟨1, 1, false, [.int .u8 0], none, [], false, [], [], none, none, some .u8, false, false, []⟩),
   (9, ⟨1, 16, false, [.str []], none, [], true, [], [], none, none, none, false, false, []⟩),
   (23, ⟨1, 24, false, [.own 2 []], some (2, 48), [], false, [5], [.own 1 [], .own 7 []], none, none, none, false, false, []⟩),
   (25, ⟨1, 24, false, [.own 8 []], some (8, 160), [], false, [5], [.str [], .str [], .own 6 [], .own 5 [], .own 8 [], .own 8 [], .own 4 [], .int .i64 0], none, none, none, false, true, []⟩),
   (27, ⟨1, 24, false, [.own 1 []], some (1, 16), [], false, [5], [.str []], none, none, none, false, false, []⟩),
   (28, ⟨1, 24, false, [.own 7 []], some (7, 136), [], false, [5], [.str [], .str [], .own 6 [], .own 5 [], .own 7 [], .own 7 [], .int .i64 0], none, none, none, false, false, []⟩),
   (30, ⟨2, 48, true, [.own 1 [], .own 7 []], none, [(0, 1), (1, 1)], false, [], [], none, none, none, false, false, [27, 28]⟩),
   (31, ⟨1, 24, false, [.own 2 []], some (2, 32), [], false, [5], [.str [], .str []], none, none, none, false, false, []⟩),
   (34, ⟨2, 32, true, [.str [], .str []], none, [(0, 1), (1, 1)], false, [10, 4, 4], [], none, none, none, false, false, [9, 9]⟩),
   (37, ⟨1, 24, false, [.own 6 []], some (6, 128), [], false, [5], [.str [], .str [], .own 5 [], .own 6 [], .own 6 [], .own 4 []], none, none, none, false, false, []⟩),
   (40, ⟨1, 24, false, [.own 1 []], some (1, 8), [], false, [5], [.int .i64 0], none, none, none, false, false, []⟩),
   (42, ⟨1, 8, false, [.nilp], none, [], false, [3], [], none, none, none, false, false, []⟩),
   (43, ⟨1, 24, false, [.own 2 []], some (2, 24), [], false, [5], [.str [], .int .i64 0], none, none, none, false, false, []⟩),
   (45, ⟨5, 88, true, [.own 1 [], .own 1 [], .int .i64 0, .int .i64 0, .own 2 []], none, [(0, 1), (1, 1), (2, 1), (3, 1), (4, 1)], false, [], [], none, none, none, false, false, [40, 40, 3, 3, 43]⟩),
   (55, ⟨1, 24, false, [.own 6 []], some (6, 88), [], false, [5], [.int .i64 0, .str [], .bool false, .own 6 [], .own 5 [], .int .i64 0], none, none, none, false, false, []⟩),
   (56, ⟨1, 24, false, [.own 5 []], some (5, 88), [], false, [5], [.str [], .str [], .own 5 [], .own 6 [], .int .i64 0], none, none, none, false, false, []⟩),
   (57, ⟨1, 24, false, [.own 4 []], some (4, 64), [], false, [5], [.str [], .str [], .str [], .str []], none, none, none, false, false, []⟩),
   (59, ⟨8, 160, true, [.str [], .str [], .own 6 [], .own 5 [], .own 8 [], .own 8 [], .own 4 [], .int .i64 0], none, [(0, 1), (1, 1), (2, 1), (3, 1), (4, 1), (5, 1), (6, 1), (7, 1)], false, [], [], none, none, none, false, true, [9, 9, 55, 56, 25, 25, 57, 3]⟩),
   (61, ⟨4, 64, true, [.str [], .str [], .str [], .str []], none, [(0, 1), (1, 1), (2, 1), (3, 1)], false, [10, 4, 4, 4, 4], [], none, none, none, false, false, [9, 9, 9, 9]⟩),
   (63, ⟨5, 88, true, [.str [], .str [], .own 5 [], .own 6 [], .int .i64 0], none, [(0, 1), (1, 1), (2, 1), (3, 1), (4, 1)], false, [], [], none, none, none, false, false, [9, 9, 56, 55, 3]⟩),
   (64, ⟨1, 24, false, [.own 9 []], some (9, 168), [], false, [5], [.str [], .bool false, .str [], .own 1 [], .own 9 [], .own 5 [], .own 5 [], .own 11 [], .int .i64 0], none, none, none, false, false, []⟩),
   (66, ⟨2, 48, true, [.own 9 [], .own 7 []], none, [(0, 1), (1, 1)], false, [], [], none, none, none, false, false, [64, 28]⟩),
   (69, ⟨1, 8, false, [.int .i64 0], none, [], false, [], [], none, none, some .i64, false, false, []⟩),
   (71, ⟨2, 16, true, [.int .i64 0, .int .i64 0], none, [(0, 1), (1, 1)], false, [10, 2, 2], [], none, none, none, false, false, [69, 3]⟩),
   (74, ⟨1, 24, false, [.own 9 []], some (9, 120), [], false, [5], [.str [], .int .i64 0, .str [], .bool false, .own 6 [], .own 5 [], .int .i64 0, .bool false, .int .i64 0], none, none, none, false, false, []⟩),
   (75, ⟨1, 24, false, [.own 5 []], some (5, 88), [], false, [5], [.own 8 [], .bool false, .own 5 [], .own 7 [], .int .i64 0], none, none, none, false, false, []⟩),
   (76, ⟨1, 24, false, [.own 11 []], some (11, 168), [], false, [5], [.str [], .own 8 [], .int .i64 0, .str [], .bool false, .own 6 [], .own 5 [], .int .i64 0, .own 7 [], .bool false, .int .i64 0], none, none, none, false, false, []⟩),
   (78, ⟨9, 168, true, [.str [], .bool false, .str [], .own 1 [], .own 9 [], .own 5 [], .own 5 [], .own 11 [], .int .i64 0], none, [(0, 1), (1, 1), (2, 1), (3, 1), (4, 1), (5, 1), (6, 1), (7, 1), (8, 1)], false, [], [], none, none, none, false, false, [9, 4, 9, 27, 74, 56, 75, 76, 3]⟩),
   (80, ⟨1, 24, false, [.own 8 []], some (8, 112), [], false, [5], [.str [], .int .i64 0, .str [], .bool false, .own 6 [], .own 5 [], .int .i64 0, .int .i64 0], none, none, none, false, false, []⟩),
   (82, ⟨6, 88, true, [.int .i64 0, .str [], .bool false, .own 6 [], .own 5 [], .int .i64 0], none, [(0, 1), (1, 1), (2, 1), (3, 1), (4, 1), (5, 1)], false, [], [], none, none, none, false, false, [3, 9, 4, 55, 56, 3]⟩),
   (84, ⟨11, 168, true, [.str [], .own 8 [], .int .i64 0, .str [], .bool false, .own 6 [], .own 5 [], .int .i64 0, .own 7 [], .bool false, .int .i64 0], none, [(0, 1), (1, 1), (2, 6), (8, 1), (9, 1), (10, 1)], false, [], [], none, none, none, false, false, [9, 80, 82, 28, 4, 3]⟩),
   (86, ⟨5, 88, true, [.own 8 [], .bool false, .own 5 [], .own 7 [], .int .i64 0], none, [(0, 1), (1, 1), (2, 1), (3, 1), (4, 1)], false, [], [], none, none, none, false, false, [80, 4, 56, 28, 3]⟩),
   (87, ⟨1, 8, false, [.nilp], none, [], false, [3], [], none, none, none, false, false, []⟩),
   (88, ⟨1, 8, false, [.any], none, [], false, [], [], none, some (4, .int .i64 0), none, false, false, []⟩),
   (90, ⟨1, 8, true, [.any], none, [(0, 1)], false, [], [], none, none, none, false, false, [88]⟩),
   (92, ⟨1, 8, false, [.any], none, [], false, [], [], none, some (4, .agg [.str []]), none, false, false, []⟩),
   (94, ⟨1, 16, true, [.str []], none, [(0, 1)], false, [10, 4], [], none, none, none, false, false, [9]⟩),
   (98, ⟨1, 24, false, [.own 4 []], some (4, 64), [], false, [5], [.str [], .str [], .str [], .str []], none, none, none, false, false, []⟩),
   (100, ⟨6, 128, true, [.str [], .str [], .own 5 [], .own 6 [], .own 6 [], .own 4 []], none, [(0, 1), (1, 1), (2, 1), (3, 1), (4, 1), (5, 1)], false, [], [], none, none, none, false, false, [9, 9, 56, 37, 37, 98]⟩),
   (101, ⟨4, 64, true, [.str [], .str [], .str [], .str []], none, [(0, 1), (1, 1), (2, 1), (3, 1)], false, [10, 4, 4, 4, 4], [], none, none, none, false, false, [9, 9, 9, 9]⟩),
   (103, ⟨7, 136, true, [.str [], .str [], .own 6 [], .own 5 [], .own 7 [], .own 7 [], .int .i64 0], none, [(0, 1), (1, 1), (2, 1), (3, 1), (4, 1), (5, 1), (6, 1)], false, [], [], none, none, none, false, false, [9, 9, 55, 56, 28, 28, 3]⟩),
   (116, ⟨1, 24, false, [.own 3 []], some (3, 32), [], false, [5], [.int .i64 0, .str [], .int .i64 0], none, none, none, false, false, []⟩),
   (119, ⟨1, 8, false, [.nilp], none, [], false, [3], [], none, none, none, false, false, []⟩),
   (121, ⟨6, 64, true, [.own 3 [], .int .i64 0, .int .i64 0, .int .i64 0, .int .i64 0, .int .i64 0], none, [(0, 1), (1, 1), (2, 1), (3, 1), (4, 1), (5, 1)], false, [], [], none, none, none, false, false, [116, 3, 3, 3, 3, 3]⟩),
   (129, ⟨1, 8, false, [.nilp], none, [], false, [3], [], none, none, none, false, false, []⟩),
   (130, ⟨1, 24, false, [.own 8 []], some (8, 112), [], false, [5], [.str [], .int .i64 0, .str [], .bool false, .own 6 [], .own 5 [], .int .i64 0, .bool false], none, none, none, false, false, []⟩),
   (132, ⟨6, 104, true, [.own 9 [], .str [], .own 8 [], .bool false, .own 6 [], .nilp], none, [(0, 1), (1, 1), (2, 1), (3, 1), (4, 1), (5, 1)], false, [], [], none, none, none, false, false, [64, 9, 130, 4, 55, 129]⟩),
   (136, ⟨8, 112, true, [.str [], .int .i64 0, .str [], .bool false, .own 6 [], .own 5 [], .int .i64 0, .int .i64 0], none, [(0, 1), (1, 6), (7, 1)], false, [], [], none, none, none, false, false, [9, 82, 3]⟩),
   (146, ⟨2, 24, true, [.str [], .int .i64 0], none, [(0, 1), (1, 1)], false, [10, 4, 2], [], none, none, none, false, false, [9, 3]⟩),
   (151, ⟨3, 32, true, [.int .i64 0, .str [], .int .i64 0], none, [(0, 1), (1, 1), (2, 1)], false, [10, 2, 4, 2], [], none, none, none, false, false, [3, 9, 3]⟩),
   (156, ⟨1, 8, false, [.nilp], none, [], false, [3], [], none, none, none, false, false, []⟩),
   (161, ⟨1, 24, false, [.own 1 []], some (1, 1), [], false, [5], [.bool false], none, none, none, false, false, []⟩),
   (167, ⟨9, 120, true, [.str [], .int .i64 0, .str [], .bool false, .own 6 [], .own 5 [], .int .i64 0, .bool false, .int .i64 0], none, [(0, 1), (1, 6), (7, 1), (8, 1)], false, [], [], none, none, none, false, false, [9, 82, 4, 3]⟩),
   (189, ⟨1, 8, false, [.nilp], none, [], false, [3], [], none, none, none, false, false, []⟩),
   (202, ⟨8, 112, true, [.str [], .int .i64 0, .str [], .bool false, .own 6 [], .own 5 [], .int .i64 0, .bool false], none, [(0, 1), (1, 6), (7, 1)], false, [], [], none, none, none, false, false, [9, 82, 4]⟩)]
@[simp] theorem tab_3 : tabT tab 3 = some ⟨1, 8, false, [.int .i64 0], none, [], false, [], [], none, none, some .i64, false, false, []⟩ := rfl
@[simp] theorem tab_4 : tabT tab 4 = some ⟨1, 1, false, [.bool false], none, [], false, [1], [], none, none, none, false, false, []⟩ := rfl
@[simp] theorem tab_5 : tabT tab 5 = some ⟨1, 1, false, [.int .u8 0], none, [], false, [], [], none, none, some .u8, false, false, []⟩ := rfl
@[simp] theorem tab_9 : tabT tab 9 = some ⟨1, 16, false, [.str []], none, [], true, [], [], none, none, none, false, false, []⟩ := rfl
@[simp] theorem tab_23 : tabT tab 23 = some ⟨1, 24, false, [.own 2 []], some (2, 48), [], false, [5], [.own 1 [], .own 7 []], none, none, none, false, false, []⟩ := rfl
@[simp] theorem tab_25 : tabT tab 25 = some ⟨1, 24, false, [.own 8 []], some (8, 160), [], false, [5], [.str [], .str [], .own 6 [], .own 5 [], .own 8 [], .own 8 [], .own 4 [], .int .i64 0], none, none, none, false, true, []⟩ := rfl
@[simp] theorem tab_27 : tabT tab 27 = some ⟨1, 24, false, [.own 1 []], some (1, 16), [], false, [5], [.str []], none, none, none, false, false, []⟩ := rfl
@[simp] theorem tab_28 : tabT tab 28 = some ⟨1, 24, false, [.own 7 []], some (7, 136), [], false, [5], [.str [], .str [], .own 6 [], .own 5 [], .own 7 [], .own 7 [], .int .i64 0], none, none, none, false, false, []⟩ := rfl
@[simp] theorem tab_30 : tabT tab 30 = some ⟨2, 48, true, [.own 1 [], .own 7 []], none, [(0, 1), (1, 1)], false, [], [], none, none, none, false, false, [27, 28]⟩ := rfl
@[simp] theorem tab_31 : tabT tab 31 = some ⟨1, 24, false, [.own 2 []], some (2, 32), [], false, [5], [.str [], .str []], none, none, none, false, false, []⟩ := rfl
@[simp] theorem tab_34 : tabT tab 34 = some ⟨2, 32, true, [.str [], .str []], none, [(0, 1), (1, 1)], false, [10, 4, 4], [], none, none, none, false, false, [9, 9]⟩ := rfl
@[simp] theorem tab_37 : tabT tab 37 = some ⟨1, 24, false, [.own 6 []], some (6, 128), [], false, [5], [.str [], .str [], .own 5 [], .own 6 [], .own 6 [], .own 4 []], none, none, none, false, false, []⟩ := rfl
@[simp] theorem tab_40 : tabT tab 40 = some ⟨1, 24, false, [.own 1 []], some (1, 8), [], false, [5], [.int .i64 0], none, none, none, false, false, []⟩ := rfl
@[simp] theorem tab_42 : tabT tab 42 = some ⟨1, 8, false, [.nilp], none, [], false, [3], [], none, none, none, false, false, []⟩ := rfl
@[simp] theorem tab_43 : tabT tab 43 = some ⟨1, 24, false, [.own 2 []], some (2, 24), [], false, [5], [.str [], .int .i64 0], none, none, none, false, false, []⟩ := rfl
@[simp] theorem tab_45 : tabT tab 45 = some ⟨5, 88, true, [.own 1 [], .own 1 [], .int .i64 0, .int .i64 0, .own 2 []], none, [(0, 1), (1, 1), (2, 1), (3, 1), (4, 1)], false, [], [], none, none, none, false, false, [40, 40, 3, 3, 43]⟩ := rfl
@[simp] theorem tab_55 : tabT tab 55 = some ⟨1, 24, false, [.own 6 []], some (6, 88), [], false, [5], [.int .i64 0, .str [], .bool false, .own 6 [], .own 5 [], .int .i64 0], none, none, none, false, false, []⟩ := rfl
@[simp] theorem tab_56 : tabT tab 56 = some ⟨1, 24, false, [.own 5 []], some (5, 88), [], false, [5], [.str [], .str [], .own 5 [], .own 6 [], .int .i64 0], none, none, none, false, false, []⟩ := rfl
@[simp] theorem tab_57 : tabT tab 57 = some ⟨1, 24, false, [.own 4 []], some (4, 64), [], false, [5], [.str [], .str [], .str [], .str []], none, none, none, false, false, []⟩ := rfl
@[simp] theorem tab_59 : tabT tab 59 = some ⟨8, 160, true, [.str [], .str [], .own 6 [], .own 5 [], .own 8 [], .own 8 [], .own 4 [], .int .i64 0], none, [(0, 1), (1, 1), (2, 1), (3, 1), (4, 1), (5, 1), (6, 1), (7, 1)], false, [], [], none, none, none, false, true, [9, 9, 55, 56, 25, 25, 57, 3]⟩ := rfl
@[simp] theorem tab_61 : tabT tab 61 = some ⟨4, 64, true, [.str [], .str [], .str [], .str []], none, [(0, 1), (1, 1), (2, 1), (3, 1)], false, [10, 4, 4, 4, 4], [], none, none, none, false, false, [9, 9, 9, 9]⟩ := rfl
@[simp] theorem tab_63 : tabT tab 63 = some ⟨5, 88, true, [.str [], .str [], .own 5 [], .own 6 [], .int .i64 0], none, [(0, 1), (1, 1), (2, 1), (3, 1), (4, 1)], false, [], [], none, none, none, false, false, [9, 9, 56, 55, 3]⟩ := rfl
@[simp] theorem tab_64 : tabT tab 64 = some ⟨1, 24, false, [.own 9 []], some (9, 168), [], false, [5], [.str [], .bool false, .str [], .own 1 [], .own 9 [], .own 5 [], .own 5 [], .own 11 [], .int .i64 0], none, none, none, false, false, []⟩ := rfl
@[simp] theorem tab_66 : tabT tab 66 = some ⟨2, 48, true, [.own 9 [], .own 7 []], none, [(0, 1), (1, 1)], false, [], [], none, none, none, false, false, [64, 28]⟩ := rfl
@[simp] theorem tab_69 : tabT tab 69 = some ⟨1, 8, false, [.int .i64 0], none, [], false, [], [], none, none, some .i64, false, false, []⟩ := rfl
@[simp] theorem tab_71 : tabT tab 71 = some ⟨2, 16, true, [.int .i64 0, .int .i64 0], none, [(0, 1), (1, 1)], false, [10, 2, 2], [], none, none, none, false, false, [69, 3]⟩ := rfl
@[simp] theorem tab_74 : tabT tab 74 = some ⟨1, 24, false, [.own 9 []], some (9, 120), [], false, [5], [.str [], .int .i64 0, .str [], .bool false, .own 6 [], .own 5 [], .int .i64 0, .bool false, .int .i64 0], none, none, none, false, false, []⟩ := rfl
@[simp] theorem tab_75 : tabT tab 75 = some ⟨1, 24, false, [.own 5 []], some (5, 88), [], false, [5], [.own 8 [], .bool false, .own 5 [], .own 7 [], .int .i64 0], none, none, none, false, false, []⟩ := rfl
@[simp] theorem tab_76 : tabT tab 76 = some ⟨1, 24, false, [.own 11 []], some (11, 168), [], false, [5], [.str [], .own 8 [], .int .i64 0, .str [], .bool false, .own 6 [], .own 5 [], .int .i64 0, .own 7 [], .bool false, .int .i64 0], none, none, none, false, false, []⟩ := rfl
@[simp] theorem tab_78 : tabT tab 78 = some ⟨9, 168, true, [.str [], .bool false, .str [], .own 1 [], .own 9 [], .own 5 [], .own 5 [], .own 11 [], .int .i64 0], none, [(0, 1), (1, 1), (2, 1), (3, 1), (4, 1), (5, 1), (6, 1), (7, 1), (8, 1)], false, [], [], none, none, none, false, false, [9, 4, 9, 27, 74, 56, 75, 76, 3]⟩ := rfl
@[simp] theorem tab_80 : tabT tab 80 = some ⟨1, 24, false, [.own 8 []], some (8, 112), [], false, [5], [.str [], .int .i64 0, .str [], .bool false, .own 6 [], .own 5 [], .int .i64 0, .int .i64 0], none, none, none, false, false, []⟩ := rfl
@[simp] theorem tab_82 : tabT tab 82 = some ⟨6, 88, true, [.int .i64 0, .str [], .bool false, .own 6 [], .own 5 [], .int .i64 0], none, [(0, 1), (1, 1), (2, 1), (3, 1), (4, 1), (5, 1)], false, [], [], none, none, none, false, false, [3, 9, 4, 55, 56, 3]⟩ := rfl
@[simp] theorem tab_84 : tabT tab 84 = some ⟨11, 168, true, [.str [], .own 8 [], .int .i64 0, .str [], .bool false, .own 6 [], .own 5 [], .int .i64 0, .own 7 [], .bool false, .int .i64 0], none, [(0, 1), (1, 1), (2, 6), (8, 1), (9, 1), (10, 1)], false, [], [], none, none, none, false, false, [9, 80, 82, 28, 4, 3]⟩ := rfl
@[simp] theorem tab_86 : tabT tab 86 = some ⟨5, 88, true, [.own 8 [], .bool false, .own 5 [], .own 7 [], .int .i64 0], none, [(0, 1), (1, 1), (2, 1), (3, 1), (4, 1)], false, [], [], none, none, none, false, false, [80, 4, 56, 28, 3]⟩ := rfl
@[simp] theorem tab_87 : tabT tab 87 = some ⟨1, 8, false, [.nilp], none, [], false, [3], [], none, none, none, false, false, []⟩ := rfl
@[simp] theorem tab_88 : tabT tab 88 = some ⟨1, 8, false, [.any], none, [], false, [], [], none, some (4, .int .i64 0), none, false, false, []⟩ := rfl
@[simp] theorem tab_90 : tabT tab 90 = some ⟨1, 8, true, [.any], none, [(0, 1)], false, [], [], none, none, none, false, false, [88]⟩ := rfl
@[simp] theorem tab_92 : tabT tab 92 = some ⟨1, 8, false, [.any], none, [], false, [], [], none, some (4, .agg [.str []]), none, false, false, []⟩ := rfl
@[simp] theorem tab_94 : tabT tab 94 = some ⟨1, 16, true, [.str []], none, [(0, 1)], false, [10, 4], [], none, none, none, false, false, [9]⟩ := rfl
@[simp] theorem tab_98 : tabT tab 98 = some ⟨1, 24, false, [.own 4 []], some (4, 64), [], false, [5], [.str [], .str [], .str [], .str []], none, none, none, false, false, []⟩ := rfl
@[simp] theorem tab_100 : tabT tab 100 = some ⟨6, 128, true, [.str [], .str [], .own 5 [], .own 6 [], .own 6 [], .own 4 []], none, [(0, 1), (1, 1), (2, 1), (3, 1), (4, 1), (5, 1)], false, [], [], none, none, none, false, false, [9, 9, 56, 37, 37, 98]⟩ := rfl
@[simp] theorem tab_101 : tabT tab 101 = some ⟨4, 64, true, [.str [], .str [], .str [], .str []], none, [(0, 1), (1, 1), (2, 1), (3, 1)], false, [10, 4, 4, 4, 4], [], none, none, none, false, false, [9, 9, 9, 9]⟩ := rfl
@[simp] theorem tab_103 : tabT tab 103 = some ⟨7, 136, true, [.str [], .str [], .own 6 [], .own 5 [], .own 7 [], .own 7 [], .int .i64 0], none, [(0, 1), (1, 1), (2, 1), (3, 1), (4, 1), (5, 1), (6, 1)], false, [], [], none, none, none, false, false, [9, 9, 55, 56, 28, 28, 3]⟩ := rfl
@[simp] theorem tab_116 : tabT tab 116 = some ⟨1, 24, false, [.own 3 []], some (3, 32), [], false, [5], [.int .i64 0, .str [], .int .i64 0], none, none, none, false, false, []⟩ := rfl
@[simp] theorem tab_119 : tabT tab 119 = some ⟨1, 8, false, [.nilp], none, [], false, [3], [], none, none, none, false, false, []⟩ := rfl
@[simp] theorem tab_121 : tabT tab 121 = some ⟨6, 64, true, [.own 3 [], .int .i64 0, .int .i64 0, .int .i64 0, .int .i64 0, .int .i64 0], none, [(0, 1), (1, 1), (2, 1), (3, 1), (4, 1), (5, 1)], false, [], [], none, none, none, false, false, [116, 3, 3, 3, 3, 3]⟩ := rfl
@[simp] theorem tab_129 : tabT tab 129 = some ⟨1, 8, false, [.nilp], none, [], false, [3], [], none, none, none, false, false, []⟩ := rfl
@[simp] theorem tab_130 : tabT tab 130 = some ⟨1, 24, false, [.own 8 []], some (8, 112), [], false, [5], [.str [], .int .i64 0, .str [], .bool false, .own 6 [], .own 5 [], .int .i64 0, .bool false], none, none, none, false, false, []⟩ := rfl
@[simp] theorem tab_132 : tabT tab 132 = some ⟨6, 104, true, [.own 9 [], .str [], .own 8 [], .bool false, .own 6 [], .nilp], none, [(0, 1), (1, 1), (2, 1), (3, 1), (4, 1), (5, 1)], false, [], [], none, none, none, false, false, [64, 9, 130, 4, 55, 129]⟩ := rfl
@[simp] theorem tab_136 : tabT tab 136 = some ⟨8, 112, true, [.str [], .int .i64 0, .str [], .bool false, .own 6 [], .own 5 [], .int .i64 0, .int .i64 0], none, [(0, 1), (1, 6), (7, 1)], false, [], [], none, none, none, false, false, [9, 82, 3]⟩ := rfl
@[simp] theorem tab_146 : tabT tab 146 = some ⟨2, 24, true, [.str [], .int .i64 0], none, [(0, 1), (1, 1)], false, [10, 4, 2], [], none, none, none, false, false, [9, 3]⟩ := rfl
@[simp] theorem tab_151 : tabT tab 151 = some ⟨3, 32, true, [.int .i64 0, .str [], .int .i64 0], none, [(0, 1), (1, 1), (2, 1)], false, [10, 2, 4, 2], [], none, none, none, false, false, [3, 9, 3]⟩ := rfl
@[simp] theorem tab_156 : tabT tab 156 = some ⟨1, 8, false, [.nilp], none, [], false, [3], [], none, none, none, false, false, []⟩ := rfl
@[simp] theorem tab_161 : tabT tab 161 = some ⟨1, 24, false, [.own 1 []], some (1, 1), [], false, [5], [.bool false], none, none, none, false, false, []⟩ := rfl
@[simp] theorem tab_167 : tabT tab 167 = some ⟨9, 120, true, [.str [], .int .i64 0, .str [], .bool false, .own 6 [], .own 5 [], .int .i64 0, .bool false, .int .i64 0], none, [(0, 1), (1, 6), (7, 1), (8, 1)], false, [], [], none, none, none, false, false, [9, 82, 4, 3]⟩ := rfl
@[simp] theorem tab_189 : tabT tab 189 = some ⟨1, 8, false, [.nilp], none, [], false, [3], [], none, none, none, false, false, []⟩ := rfl
@[simp] theorem tab_202 : tabT tab 202 = some ⟨8, 112, true, [.str [], .int .i64 0, .str [], .bool false, .own 6 [], .own 5 [], .int .i64 0, .bool false], none, [(0, 1), (1, 6), (7, 1)], false, [], [], none, none, none, false, false, [9, 82, 4]⟩ := rfl
theorem tabOk : TabOk Tryz.prog (tabT tab) := tab_ok (by kernel_rfl)
theorem mixed : Tryz.prog.follows .mixedOrders = true := by kernel_rfl
/-- A body's contract. -/
abbrev Ok (B : Heap) (f : FuncId) (args : List V) (objs : List Ob) (r : V) (objs' news : List Ob) : Prop := CallOk Tryz.prog B f args objs r objs' news
def hints (mvd : List Oid) (l : List (List Nat × List Oid)) (id : Nat) : Hint := match l[id]? with | some (a, b) => ⟨a, b, mvd⟩ | none => ⟨[], [], mvd⟩
end Go.Proofs.YtcdoebbffjejeaaGreatDoor
