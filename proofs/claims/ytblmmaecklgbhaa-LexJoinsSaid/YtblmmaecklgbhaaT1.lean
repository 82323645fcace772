/- A part of the proof of a law of this seat: no condition. -/
import Derived.Test.YtblmmaecklgbhaaAxTab
import Derived.Test.YtblmmaecklgbhaaChecked
namespace Go.Proofs.Ytblmmaecklgbhaa
open Go.Ax
def tab : List (Nat × TI) :=
  [(3, ⟨1, 8, false, [.int .i64 0], none, [], false, [], [], none, none, some .i64, false⟩),
   (4, ⟨1, 1, false, [.bool false], none, [], false, [1], [], none, none, none, false⟩),
   (5, ⟨1, 1, false, [.int .u8 0], none, [], false, [], [], none, none, some .u8, false⟩),
   (9, ⟨1, 16, false, [.str []], none, [], true, [], [], none, none, none, false⟩),
   (23, ⟨1, 24, false, [.own 3 []], some (3, 32), [], false, [], [], none, none, none, false⟩),
   (24, ⟨1, 8, false, [.int .i64 0], none, [], false, [], [], none, none, some .i64, false⟩),
   (26, ⟨2, 16, true, [.int .i64 0, .int .i64 0], none, [(0, 1), (1, 1)], false, [10, 2, 2], [], none, none, none, false⟩),
   (34, ⟨3, 32, true, [.int .i64 0, .str [], .int .i64 0], none, [(0, 1), (1, 1), (2, 1)], false, [10, 2, 4, 2], [], none, none, none, false⟩),
   (36, ⟨1, 24, false, [.own 1 []], some (1, 1), [], false, [], [.int .u8 0], none, none, none, true⟩),
   (39, ⟨1, 24, false, [.own 1 []], some (1, 16), [], false, [], [], none, none, none, false⟩),
   (40, ⟨1, 24, false, [.own 1 []], some (1, 8), [], false, [], [], none, none, none, false⟩),
   (45, ⟨1, 8, false, [.nilfn], none, [], false, [], [], none, none, none, false⟩),
   (53, ⟨1, 8, false, [.nilp], none, [], false, [3], [], none, none, none, false⟩),
   (55, ⟨2, 32, true, [.nilp, .own 1 []], none, [(0, 1), (1, 1)], false, [], [], none, none, none, false⟩)]
-- TABS
@[simp] theorem tab_3 : tabT tab 3 = some ⟨1, 8, false, [.int .i64 0], none, [], false, [], [], none, none, some .i64, false⟩ := rfl
@[simp] theorem tab_4 : tabT tab 4 = some ⟨1, 1, false, [.bool false], none, [], false, [1], [], none, none, none, false⟩ := rfl
@[simp] theorem tab_5 : tabT tab 5 = some ⟨1, 1, false, [.int .u8 0], none, [], false, [], [], none, none, some .u8, false⟩ := rfl
@[simp] theorem tab_9 : tabT tab 9 = some ⟨1, 16, false, [.str []], none, [], true, [], [], none, none, none, false⟩ := rfl
@[simp] theorem tab_23 : tabT tab 23 = some ⟨1, 24, false, [.own 3 []], some (3, 32), [], false, [], [], none, none, none, false⟩ := rfl
@[simp] theorem tab_24 : tabT tab 24 = some ⟨1, 8, false, [.int .i64 0], none, [], false, [], [], none, none, some .i64, false⟩ := rfl
@[simp] theorem tab_26 : tabT tab 26 = some ⟨2, 16, true, [.int .i64 0, .int .i64 0], none, [(0, 1), (1, 1)], false, [10, 2, 2], [], none, none, none, false⟩ := rfl
@[simp] theorem tab_34 : tabT tab 34 = some ⟨3, 32, true, [.int .i64 0, .str [], .int .i64 0], none, [(0, 1), (1, 1), (2, 1)], false, [10, 2, 4, 2], [], none, none, none, false⟩ := rfl
@[simp] theorem tab_36 : tabT tab 36 = some ⟨1, 24, false, [.own 1 []], some (1, 1), [], false, [], [.int .u8 0], none, none, none, true⟩ := rfl
@[simp] theorem tab_39 : tabT tab 39 = some ⟨1, 24, false, [.own 1 []], some (1, 16), [], false, [], [], none, none, none, false⟩ := rfl
@[simp] theorem tab_40 : tabT tab 40 = some ⟨1, 24, false, [.own 1 []], some (1, 8), [], false, [], [], none, none, none, false⟩ := rfl
@[simp] theorem tab_45 : tabT tab 45 = some ⟨1, 8, false, [.nilfn], none, [], false, [], [], none, none, none, false⟩ := rfl
@[simp] theorem tab_53 : tabT tab 53 = some ⟨1, 8, false, [.nilp], none, [], false, [3], [], none, none, none, false⟩ := rfl
@[simp] theorem tab_55 : tabT tab 55 = some ⟨2, 32, true, [.nilp, .own 1 []], none, [(0, 1), (1, 1)], false, [], [], none, none, none, false⟩ := rfl
-- ENDTABS
theorem tabOk : TabOk Try.prog (tabT tab) := tab_ok (by kernel_rfl)
theorem mixed : Try.prog.follows .mixedOrders = true := by kernel_rfl
/-- A body's contract. -/
abbrev Ok (B : Heap) (f : FuncId) (args : List V) (objs : List Ob) (r : V) (objs' news : List Ob) : Prop := CallOk Try.prog B f args objs r objs' news
def hints (mvd : List Oid) (l : List (List Nat × List Oid)) (id : Nat) : Hint := match l[id]? with | some (a, b) => ⟨a, b, mvd⟩ | none => ⟨[], [], mvd⟩
end Go.Proofs.Ytblmmaecklgbhaa
