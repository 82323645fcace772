/- A part of the proof of a law of this seat: no condition. -/
import Derived.Test.YtjabgfnljbnmmaaDoorA6
import Derived.Test.YtjabgfnljbnmmaaDoorChecked
set_option linter.unusedVariables false
namespace Go.Proofs.YtjabgfnljbnmmaaDoor
open Go.Ax
def tab : List (Nat × TI) :=
 [(3, ⟨1, 8, false, [.int .i64 0], none, [], false, [], [], none, none, some .i64, false, false⟩),
  (4, ⟨1, 1, false, [.bool false], none, [], false, [1], [], none, none, none, false, false⟩),
  (5, ⟨1, 1, false, [.int .u8 0], none, [], false, [], [], none, none, some .u8, false, false⟩),
  (9, ⟨1, 16, false, [.str []], none, [], true, [], [], none, none, none, false, false⟩),
  (22, ⟨1, 24, false, [.own 5 []], some (5, 64), [], false, [5], [.int .i64 0, .str [], .own 1 [], .int .i64 0, .int .i64 0], none, none, none, false, false⟩),
  (24, ⟨1, 8, false, [.nilp], none, [], false, [3], [], none, none, none, false, false⟩),
  (25, ⟨1, 24, false, [.own 2 []], some (2, 40), [], false, [5], [.str [], .own 1 []], none, none, none, false, false⟩),
  (26, ⟨1, 24, false, [.own 2 []], some (2, 16), [], false, [5], [.int .i64 0, .int .i64 0], none, none, none, false, false⟩),
  (28, ⟨2, 48, true, [.own 2 [], .own 2 []], none, [(0, 1), (1, 1)], false, [], [], none, none, none, false, true⟩),
  (31, ⟨1, 24, false, [.own 1 []], some (1, 8), [], false, [5], [.int .i64 0], none, none, none, false, false⟩),
  (32, ⟨1, 8, false, [.int .i64 0], none, [], false, [], [], none, none, some .i64, false, false⟩),
  (40, ⟨2, 40, true, [.str [], .own 1 []], none, [(0, 1), (1, 1)], false, [], [], none, none, none, false, false⟩),
  (49, ⟨5, 64, true, [.int .i64 0, .str [], .own 1 [], .int .i64 0, .int .i64 0], none, [(0, 1), (1, 1), (2, 1), (3, 1), (4, 1)], false, [], [], none, none, none, false, false⟩),
  (55, ⟨2, 16, true, [.int .i64 0, .int .i64 0], none, [], false, [], [], some (2, 1), none, none, false, false⟩),
  (60, ⟨1, 24, false, [.own 1 []], some (1, 24), [], false, [5], [.own 1 []], none, none, none, false, false⟩),
  (68, ⟨1, 8, false, [.any], none, [], false, [], [], none, some (100, .int .i64 0), none, false, false⟩),
  (69, ⟨1, 24, false, [.own 1 []], some (1, 1), [], false, [5], [.bool false], none, none, none, false, false⟩),
  (70, ⟨1, 8, false, [.any], none, [], false, [], [], none, some (4, .int .i64 0), none, false, false⟩),
  (71, ⟨1, 24, false, [.own 3 []], some (3, 24), [], false, [5], [.int .i64 0, .int .i64 0, .bool false], none, none, none, false, false⟩),
  (73, ⟨8, 160, true, [.own 2 [], .any, .own 2 [], .sl 1 (.hole 0) 0, .sl 1 (.hole 1) 0, .sl 1 (.hole 2) 0, .any, .sl 3 (.hole 3) 0], none, [(0, 1), (1, 1), (2, 1), (3, 1), (4, 1), (5, 1), (6, 1), (7, 1)], false, [], [], none, none, none, false, true⟩),
  (75, ⟨3, 40, true, [.nilp, .any, .own 1 []], none, [(0, 1), (1, 1), (2, 1)], false, [], [], none, none, none, false, false⟩),
  (86, ⟨3, 24, true, [.int .i64 0, .int .i64 0, .int .i64 0], none, [(0, 1), (1, 1), (2, 1)], false, [10, 2, 2, 2], [], none, none, none, false, false⟩),
  (87, ⟨1, 24, false, [.own 3 []], some (3, 24), [], false, [5], [.int .i64 0, .int .i64 0, .int .i64 0], none, none, none, false, false⟩),
  (93, ⟨1, 8, false, [.nilp], none, [], false, [3], [], none, none, none, false, false⟩),
  (98, ⟨3, 24, true, [.int .i64 0, .int .i64 0, .bool false], none, [(0, 1), (1, 1), (2, 1)], false, [10, 2, 2, 1], [], none, none, none, false, false⟩),
  (103, ⟨1, 8, false, [.any], none, [], false, [], [], none, some (2, .int .i64 0), none, false, false⟩)]
@[simp] theorem tab_3 : tabT tab 3 = some ⟨1, 8, false, [.int .i64 0], none, [], false, [], [], none, none, some .i64, false, false⟩ := rfl
@[simp] theorem tab_4 : tabT tab 4 = some ⟨1, 1, false, [.bool false], none, [], false, [1], [], none, none, none, false, false⟩ := rfl
@[simp] theorem tab_5 : tabT tab 5 = some ⟨1, 1, false, [.int .u8 0], none, [], false, [], [], none, none, some .u8, false, false⟩ := rfl
@[simp] theorem tab_9 : tabT tab 9 = some ⟨1, 16, false, [.str []], none, [], true, [], [], none, none, none, false, false⟩ := rfl
@[simp] theorem tab_22 : tabT tab 22 = some ⟨1, 24, false, [.own 5 []], some (5, 64), [], false, [5], [.int .i64 0, .str [], .own 1 [], .int .i64 0, .int .i64 0], none, none, none, false, false⟩ := rfl
@[simp] theorem tab_24 : tabT tab 24 = some ⟨1, 8, false, [.nilp], none, [], false, [3], [], none, none, none, false, false⟩ := rfl
@[simp] theorem tab_25 : tabT tab 25 = some ⟨1, 24, false, [.own 2 []], some (2, 40), [], false, [5], [.str [], .own 1 []], none, none, none, false, false⟩ := rfl
@[simp] theorem tab_26 : tabT tab 26 = some ⟨1, 24, false, [.own 2 []], some (2, 16), [], false, [5], [.int .i64 0, .int .i64 0], none, none, none, false, false⟩ := rfl
@[simp] theorem tab_28 : tabT tab 28 = some ⟨2, 48, true, [.own 2 [], .own 2 []], none, [(0, 1), (1, 1)], false, [], [], none, none, none, false, true⟩ := rfl
@[simp] theorem tab_31 : tabT tab 31 = some ⟨1, 24, false, [.own 1 []], some (1, 8), [], false, [5], [.int .i64 0], none, none, none, false, false⟩ := rfl
@[simp] theorem tab_32 : tabT tab 32 = some ⟨1, 8, false, [.int .i64 0], none, [], false, [], [], none, none, some .i64, false, false⟩ := rfl
@[simp] theorem tab_40 : tabT tab 40 = some ⟨2, 40, true, [.str [], .own 1 []], none, [(0, 1), (1, 1)], false, [], [], none, none, none, false, false⟩ := rfl
@[simp] theorem tab_49 : tabT tab 49 = some ⟨5, 64, true, [.int .i64 0, .str [], .own 1 [], .int .i64 0, .int .i64 0], none, [(0, 1), (1, 1), (2, 1), (3, 1), (4, 1)], false, [], [], none, none, none, false, false⟩ := rfl
@[simp] theorem tab_55 : tabT tab 55 = some ⟨2, 16, true, [.int .i64 0, .int .i64 0], none, [], false, [], [], some (2, 1), none, none, false, false⟩ := rfl
@[simp] theorem tab_60 : tabT tab 60 = some ⟨1, 24, false, [.own 1 []], some (1, 24), [], false, [5], [.own 1 []], none, none, none, false, false⟩ := rfl
@[simp] theorem tab_68 : tabT tab 68 = some ⟨1, 8, false, [.any], none, [], false, [], [], none, some (100, .int .i64 0), none, false, false⟩ := rfl
@[simp] theorem tab_69 : tabT tab 69 = some ⟨1, 24, false, [.own 1 []], some (1, 1), [], false, [5], [.bool false], none, none, none, false, false⟩ := rfl
@[simp] theorem tab_70 : tabT tab 70 = some ⟨1, 8, false, [.any], none, [], false, [], [], none, some (4, .int .i64 0), none, false, false⟩ := rfl
@[simp] theorem tab_71 : tabT tab 71 = some ⟨1, 24, false, [.own 3 []], some (3, 24), [], false, [5], [.int .i64 0, .int .i64 0, .bool false], none, none, none, false, false⟩ := rfl
@[simp] theorem tab_73 : tabT tab 73 = some ⟨8, 160, true, [.own 2 [], .any, .own 2 [], .sl 1 (.hole 0) 0, .sl 1 (.hole 1) 0, .sl 1 (.hole 2) 0, .any, .sl 3 (.hole 3) 0], none, [(0, 1), (1, 1), (2, 1), (3, 1), (4, 1), (5, 1), (6, 1), (7, 1)], false, [], [], none, none, none, false, true⟩ := rfl
@[simp] theorem tab_75 : tabT tab 75 = some ⟨3, 40, true, [.nilp, .any, .own 1 []], none, [(0, 1), (1, 1), (2, 1)], false, [], [], none, none, none, false, false⟩ := rfl
@[simp] theorem tab_86 : tabT tab 86 = some ⟨3, 24, true, [.int .i64 0, .int .i64 0, .int .i64 0], none, [(0, 1), (1, 1), (2, 1)], false, [10, 2, 2, 2], [], none, none, none, false, false⟩ := rfl
@[simp] theorem tab_87 : tabT tab 87 = some ⟨1, 24, false, [.own 3 []], some (3, 24), [], false, [5], [.int .i64 0, .int .i64 0, .int .i64 0], none, none, none, false, false⟩ := rfl
@[simp] theorem tab_93 : tabT tab 93 = some ⟨1, 8, false, [.nilp], none, [], false, [3], [], none, none, none, false, false⟩ := rfl
@[simp] theorem tab_98 : tabT tab 98 = some ⟨3, 24, true, [.int .i64 0, .int .i64 0, .bool false], none, [(0, 1), (1, 1), (2, 1)], false, [10, 2, 2, 1], [], none, none, none, false, false⟩ := rfl
@[simp] theorem tab_103 : tabT tab 103 = some ⟨1, 8, false, [.any], none, [], false, [], [], none, some (2, .int .i64 0), none, false, false⟩ := rfl
theorem tabOk : TabOk Tryd.prog (tabT tab) := tab_ok (by kernel_rfl)
theorem mixed : Tryd.prog.follows .mixedOrders = true := by kernel_rfl
/-- A body's contract. -/
abbrev Ok (B : Heap) (f : FuncId) (args : List V) (objs : List Ob) (r : V) (objs' news : List Ob) : Prop := CallOk Tryd.prog B f args objs r objs' news
def hints (mvd : List Oid) (l : List (List Nat × List Oid)) (id : Nat) : Hint := match l[id]? with | some (a, b) => ⟨a, b, mvd⟩ | none => ⟨[], [], mvd⟩
end Go.Proofs.YtjabgfnljbnmmaaDoor
