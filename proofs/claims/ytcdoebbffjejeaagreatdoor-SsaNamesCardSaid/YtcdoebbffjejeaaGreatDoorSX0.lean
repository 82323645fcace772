/- A part of the proof of a law of this seat: no condition. -/
import Derived.Test.YtcdoebbffjejeaaGreatDoorZA
import Derived.Test.YtcdoebbffjejeaaGreatDoorZB
import Derived.Test.YtcdoebbffjejeaaGreatDoorS1
import Derived.Test.YtcdoebbffjejeaaGreatDoorA9
import Derived.KernelRfl
set_option maxRecDepth 1000000
set_option linter.unusedVariables false
namespace Go.Proofs.YtcdoebbffjejeaaGreatDoor
open Go.Ax
noncomputable def xtab (B : Heap) : (f : FuncId) → Option (Ent Tryz.prog B (tabT tab) f)
  | 8 => some ⟨c8, [.tmp 0], [], 0, Tryz.f8.ntmps, fun h h1 => k8 h h1⟩
  | 9 => some ⟨c9, [.tmp 2], [], 0, Tryz.f9.ntmps, fun h h1 => k9 h h1⟩
  | 10 => some ⟨c10, [.tmp 4], [], 0, Tryz.f10.ntmps, fun h h1 => k10 h h1⟩
  | 11 => some ⟨c11, [.tmp 2], [], 0, Tryz.f11.ntmps, fun h h1 => k11 h h1⟩
  | 17 => some ⟨c17, [.tmp 2], [], 0, Tryz.f17.ntmps, fun h h1 => k17 h h1⟩
  | 25 => some ⟨c25, [.cell 2 66, .tmp 3, .tmp 4], [], 0, Tryz.f25.ntmps, fun h h1 => k25 h h1⟩
  | 26 => some ⟨c26, [.cell 2 66, .cell 3 71], [], 0, Tryz.f26.ntmps, fun h h1 => k26 h h1⟩
  | 28 => some ⟨c28, [.tmp 4], [], 0, Tryz.f28.ntmps, fun h h1 => k28 h h1⟩
  | 29 => some ⟨c29, [.tmp 6, .tmp 7], [], 0, Tryz.f29.ntmps, fun h h1 => k29 h h1⟩
  | 36 => some ⟨c36, [.tmp 4, .tmp 5, .tmp 6], [], 0, Tryz.f36.ntmps, fun h h1 => k36 h h1⟩
  | 43 => some ⟨c43, [.tmp 2, .tmp 3, .tmp 4], [], 0, Tryz.f43.ntmps, fun h h1 => k43 h h1⟩
  | 44 => some ⟨c44, [.tmp 6], [], 0, Tryz.f44.ntmps, fun h h1 => k44 h h1⟩
  | 47 => some ⟨c47, [], [], 0, Tryz.f47.ntmps, fun h h1 => k47 h h1⟩
  | 48 => some ⟨c48, [.tmp 2], [], 0, Tryz.f48.ntmps, fun h h1 => k48 h h1⟩
  | 50 => some ⟨c50, [.tmp 2, .tmp 3], [], 0, Tryz.f50.ntmps, fun h h1 => k50 h h1⟩
  | 52 => some ⟨c52, [.tmp 4], [], 0, Tryz.f52.ntmps, fun h h1 => k52 h h1⟩
  | 54 => some ⟨c54, [.cell 6 59, .tmp 7], [], 0, Tryz.f54.ntmps, fun h h1 => k54 h h1⟩
  | 62 => some ⟨c62, [.tmp 4, .tmp 5, .tmp 6], [], 0, Tryz.f62.ntmps, fun h h1 => k62 h h1⟩
  | 63 => some ⟨c63, [.tmp 4], [], 0, Tryz.f63.ntmps, fun h h1 => k63 h h1⟩
  | 64 => some ⟨c64, [.tmp 2], [], 0, Tryz.f64.ntmps, fun h h1 => k64 h h1⟩
  | 65 => some ⟨c65, [.tmp 6], [], 0, Tryz.f65.ntmps, fun h h1 => k65 h h1⟩
  | 66 => some ⟨c66, [.tmp 4], [], 0, Tryz.f66.ntmps, fun h h1 => k66 h h1⟩
  | 67 => some ⟨c67, [.tmp 2], [], 0, Tryz.f67.ntmps, fun h h1 => k67 h h1⟩
  | 68 => some ⟨c68, [.tmp 2], [], 0, Tryz.f68.ntmps, fun h h1 => k68 h h1⟩
  | 69 => some ⟨c69, [.tmp 4], [], 0, Tryz.f69.ntmps, fun h h1 => k69 h h1⟩
  | 73 => some ⟨c73, [.tmp 2], [], 0, Tryz.f73.ntmps, fun h h1 => k73 h h1⟩
  | 74 => some ⟨c74, [.cell 2 103], [], 0, Tryz.f74.ntmps, fun h h1 => k74 h h1⟩
  | 75 => some ⟨c75, [.tmp 2, .tmp 3], [], 0, Tryz.f75.ntmps, fun h h1 => k75 h h1⟩
  | 76 => some ⟨c76, [.tmp 2, .tmp 3], [], 0, Tryz.f76.ntmps, fun h h1 => k76 h h1⟩
  | 82 => some ⟨c82, [.tmp 2], [], 0, Tryz.f82.ntmps, fun h h1 => k82 h h1⟩
  | 89 => some ⟨c89, [.cell 4 103, .cell 5 132], [], 0, Tryz.f89.ntmps, fun h h1 => k89 h h1⟩
  | 91 => some ⟨c91, [.cell 8 59, .tmp 9], [], 0, Tryz.f91.ntmps, fun h h1 => k91 h h1⟩
  | 93 => some ⟨c93, [.tmp 4], [], 0, Tryz.f93.ntmps, fun h h1 => k93 h h1⟩
  | 99 => some ⟨c99, [.tmp 4], [], 0, Tryz.f99.ntmps, fun h h1 => k99 h h1⟩
  | 100 => some ⟨c100, [.tmp 2], [], 0, Tryz.f100.ntmps, fun h h1 => k100 h h1⟩
  | 102 => some ⟨c102, [.cell 2 63], [], 0, Tryz.f102.ntmps, fun h h1 => k102 h h1⟩
  | 105 => some ⟨c105, [.cell 2 103], [], 0, Tryz.f105.ntmps, fun h h1 => k105 h h1⟩
  | 106 => some ⟨c106, [], [], 0, Tryz.f106.ntmps, fun h h1 => k106 h h1⟩
  | 115 => some ⟨c115, [.cell 8 132], [], 0, Tryz.f115.ntmps, fun h h1 => k115 h h1⟩
  | 116 => some ⟨c116, [.cell 6 63], [], 0, Tryz.f116.ntmps, fun h h1 => k116 h h1⟩
  | 118 => some ⟨c118, [.tmp 4], [], 0, Tryz.f118.ntmps, fun h h1 => k118 h h1⟩
  | 120 => some ⟨c120, [.cell 4 63], [], 0, Tryz.f120.ntmps, fun h h1 => k120 h h1⟩
  | 122 => some ⟨c122, [.cell 4 103, .cell 5 132], [], 0, Tryz.f122.ntmps, fun h h1 => k122 h h1⟩
  | 123 => some ⟨c123, [.tmp 4], [], 0, Tryz.f123.ntmps, fun h h1 => k123 h h1⟩
  | 124 => some ⟨c124, [.cell 4 63], [], 0, Tryz.f124.ntmps, fun h h1 => k124 h h1⟩
  | 126 => some ⟨c126, [.cell 2 82], [], 0, Tryz.f126.ntmps, fun h h1 => k126 h h1⟩
  | 129 => some ⟨c129, [.tmp 6, .tmp 7, .tmp 8], [.loc 23], 1, Tryz.f129.ntmps, fun h h1 => k129 h h1⟩
  | 130 => some ⟨c130, [.tmp 2], [], 0, Tryz.f130.ntmps, fun h h1 => k130 h h1⟩
  | 132 => some ⟨c132, [.cell 4 63], [], 0, Tryz.f132.ntmps, fun h h1 => k132 h h1⟩
  | 137 => some ⟨c137, [.tmp 2], [], 0, Tryz.f137.ntmps, fun h h1 => k137 h h1⟩
  | 139 => some ⟨c139, [.cell 4 63], [], 0, Tryz.f139.ntmps, fun h h1 => k139 h h1⟩
  | 141 => some ⟨c141, [.cell 2 82], [], 0, Tryz.f141.ntmps, fun h h1 => k141 h h1⟩
  | 142 => some ⟨c142, [.tmp 6], [], 0, Tryz.f142.ntmps, fun h h1 => k142 h h1⟩
  | 148 => some ⟨c148, [.cell 4 63], [], 0, Tryz.f148.ntmps, fun h h1 => k148 h h1⟩
  | 153 => some ⟨c153, [.tmp 2], [.loc 6], 1, Tryz.f153.ntmps, fun h h1 => k153 h h1⟩
  | 157 => some ⟨c157, [.tmp 0], [], 0, Tryz.f157.ntmps, fun h h1 => k157 h h1⟩
  | 158 => some ⟨c158, [.cell 2 63], [], 0, Tryz.f158.ntmps, fun h h1 => k158 h h1⟩
  | 159 => some ⟨c159, [.tmp 4], [], 0, Tryz.f159.ntmps, fun h h1 => k159 h h1⟩
  | 170 => some ⟨c170, [.cell 2 63], [], 0, Tryz.f170.ntmps, fun h h1 => k170 h h1⟩
  | 171 => some ⟨c171, [.tmp 2], [], 0, Tryz.f171.ntmps, fun h h1 => k171 h h1⟩
  | _ => none
def q0 : List V := [.agg [.int .i64 1, .str [109, 97, 105, 110], .int .i64 0], .agg [.int .i64 3, .str [123], .int .i64 5], .agg [.int .i64 1, .str [108, 101, 116], .int .i64 7], .agg [.int .i64 1, .str [120], .int .i64 11], .agg [.int .i64 3, .str [61], .int .i64 13], .agg [.int .i64 2, .str [49], .int .i64 15], .agg [.int .i64 3, .str [59], .int .i64 16], .agg [.int .i64 1, .str [105, 102], .int .i64 18], .agg [.int .i64 3, .str [40], .int .i64 21], .agg [.int .i64 1, .str [120], .int .i64 22], .agg [.int .i64 3, .str [62], .int .i64 24], .agg [.int .i64 2, .str [48], .int .i64 26], .agg [.int .i64 3, .str [41], .int .i64 27], .agg [.int .i64 3, .str [123], .int .i64 29], .agg [.int .i64 1, .str [120], .int .i64 31], .agg [.int .i64 3, .str [61], .int .i64 33], .agg [.int .i64 2, .str [50], .int .i64 35], .agg [.int .i64 3, .str [59], .int .i64 36], .agg [.int .i64 3, .str [125], .int .i64 38], .agg [.int .i64 1, .str [112, 114, 105, 110, 116], .int .i64 40], .agg [.int .i64 1, .str [120], .int .i64 46], .agg [.int .i64 3, .str [59], .int .i64 47], .agg [.int .i64 3, .str [125], .int .i64 49]]
def q4 : List V := [.agg [.int .i64 1, .str [], .bool false, .slice 6 [], .slice 5 [], .int .i64 0]]
def q1 : List V := [.agg [.str [108, 101, 116], .str [120], .slice 6 [], .slice 5 [.agg [.str [110, 117, 109], .str [49], .slice 5 [], .slice 6 q4, .int .i64 15]], .slice 7 [], .slice 7 [], .int .i64 7], .agg [.str [105, 102], .str [], .slice 6 [], .slice 5 [.agg [.str [62], .str [], .slice 5 [.agg [.str [118, 97, 114], .str [120], .slice 5 [], .slice 6 q4, .int .i64 22], .agg [.str [110, 117, 109], .str [48], .slice 5 [], .slice 6 q4, .int .i64 26]], .slice 6 [.agg [.int .i64 2, .str [], .bool false, .slice 6 [], .slice 5 [], .int .i64 0]], .int .i64 24]], .slice 7 [.agg [.str [115, 101, 116], .str [120], .slice 6 [], .slice 5 [.agg [.str [110, 117, 109], .str [50], .slice 5 [], .slice 6 q4, .int .i64 35]], .slice 7 [], .slice 7 [], .int .i64 31]], .slice 7 [], .int .i64 18], .agg [.str [112, 114, 105, 110, 116], .str [], .slice 6 [], .slice 5 [.agg [.str [118, 97, 114], .str [120], .slice 5 [], .slice 6 q4, .int .i64 46]], .slice 7 [], .slice 7 [], .int .i64 40]]
def q2 : List V := [.agg [.str [108, 101, 116], .str [120], .slice 6 [], .slice 5 [.agg [.str [110, 117, 109], .str [49], .slice 5 [], .slice 6 [], .int .i64 15]], .slice 7 [], .slice 7 [], .int .i64 7], .agg [.str [105, 102], .str [], .slice 6 [], .slice 5 [.agg [.str [62], .str [], .slice 5 [.agg [.str [118, 97, 114], .str [120], .slice 5 [], .slice 6 [], .int .i64 22], .agg [.str [110, 117, 109], .str [48], .slice 5 [], .slice 6 [], .int .i64 26]], .slice 6 [], .int .i64 24]], .slice 7 [.agg [.str [115, 101, 116], .str [120], .slice 6 [], .slice 5 [.agg [.str [110, 117, 109], .str [50], .slice 5 [], .slice 6 [], .int .i64 35]], .slice 7 [], .slice 7 [], .int .i64 31]], .slice 7 [], .int .i64 18], .agg [.str [112, 114, 105, 110, 116], .str [], .slice 6 [], .slice 5 [.agg [.str [118, 97, 114], .str [120], .slice 5 [], .slice 6 [], .int .i64 46]], .slice 7 [], .slice 7 [], .int .i64 40]]
def q3 : List V := [.str [109, 97, 105, 110, 32, 123, 32, 108, 101, 116, 32, 120, 32, 61, 32, 49, 59, 32, 105, 102, 32, 40, 120, 32, 62, 32, 48, 41, 32, 123, 32, 120, 32, 61, 32, 50, 59, 32, 125, 32, 112, 114, 105, 110, 116, 32, 120, 59, 32, 125]]
def q5 : List Ob := [.cells false [.slice 3 q0, .int .i64 19, .int .i64 50, .int .i64 1, .int .i64 0, .int .i64 0]]
def q6 : List Ob := [.cells false [.slice 3 q0, .int .i64 7, .int .i64 50, .int .i64 1, .int .i64 0, .int .i64 0]]
def a43 : List V := q3
def b43 : List Ob := []
def r43 : V × List Ob × List Ob := (.tup [.slice 3 q0, .int .i64 0, .int .i64 0], [], [])
def a74a : List V := [.ref (.par 0) 0]
def b74a : List Ob := [.cells false [.slice 3 q0, .int .i64 2, .int .i64 50, .int .i64 1, .int .i64 0, .int .i64 0]]
def r74a : V × List Ob × List Ob := (.agg [.str [108, 101, 116], .str [120], .slice 6 [], .slice 5 [.agg [.str [110, 117, 109], .str [49], .slice 5 [], .slice 6 [], .int .i64 15]], .slice 7 [], .slice 7 [], .int .i64 7], q6, [])
def a74b : List V := [.ref (.par 0) 0]
def b74b : List Ob := q6
def r74b : V × List Ob × List Ob := (.agg [.str [105, 102], .str [], .slice 6 [], .slice 5 [.agg [.str [62], .str [], .slice 5 [.agg [.str [118, 97, 114], .str [120], .slice 5 [], .slice 6 [], .int .i64 22], .agg [.str [110, 117, 109], .str [48], .slice 5 [], .slice 6 [], .int .i64 26]], .slice 6 [], .int .i64 24]], .slice 7 [.agg [.str [115, 101, 116], .str [120], .slice 6 [], .slice 5 [.agg [.str [110, 117, 109], .str [50], .slice 5 [], .slice 6 [], .int .i64 35]], .slice 7 [], .slice 7 [], .int .i64 31]], .slice 7 [], .int .i64 18], q5, [])
def a74c : List V := [.ref (.par 0) 0]
def b74c : List Ob := q5
def r74c : V × List Ob × List Ob := (.agg [.str [112, 114, 105, 110, 116], .str [], .slice 6 [], .slice 5 [.agg [.str [118, 97, 114], .str [120], .slice 5 [], .slice 6 [], .int .i64 46]], .slice 7 [], .slice 7 [], .int .i64 40], [.cells false [.slice 3 q0, .int .i64 22, .int .i64 50, .int .i64 1, .int .i64 0, .int .i64 0]], [])
def a48 : List V := [.ref (.par 0) 0]
def b48 : List Ob := [.cells false [.slice 3 q0, .int .i64 1, .int .i64 50, .int .i64 0, .int .i64 0, .int .i64 0]]
def r48 : V × List Ob × List Ob := (.own 7 q2, [.cells false [.slice 3 q0, .int .i64 23, .int .i64 50, .int .i64 0, .int .i64 0, .int .i64 0]], [])
def a25 : List V := q3
def b25 : List Ob := []
def r25 : V × List Ob × List Ob := (.tup [.agg [.slice 9 [], .slice 7 q2], .int .i64 0, .int .i64 0], [], [])
def a50 : List V := [.slice 9 []]
def b50 : List Ob := []
def r50 : V × List Ob × List Ob := (.tup [.int .i64 0, .int .i64 0], [], [])
def a26 : List V := [.agg [.slice 9 [], .slice 7 q2]]
def b26 : List Ob := []
def r26 : V × List Ob × List Ob := (.tup [.agg [.slice 9 [], .slice 7 q1], .agg [.int .i64 0, .int .i64 0]], [], [])
def a9 : List V := q3
def b9 : List Ob := []
def r9 : V × List Ob × List Ob := (.own 2 [.agg [.slice 1 [], .slice 7 q1]], [], [])
def a10 : List V := [.slice 1 [], .slice 7 q1]
def b10 : List Ob := []
def r10 : V × List Ob × List Ob := (.slice 8 [.agg [.str [108, 101, 116], .str [120, 35, 48], .slice 6 [], .slice 5 [.agg [.str [110, 117, 109], .str [49], .slice 5 [], .slice 6 q4, .int .i64 15]], .slice 8 [], .slice 8 [], .slice 4 [], .int .i64 7], .agg [.str [105, 102], .str [], .slice 6 [], .slice 5 [.agg [.str [62], .str [], .slice 5 [.agg [.str [118, 97, 114], .str [120, 35, 48], .slice 5 [], .slice 6 q4, .int .i64 22], .agg [.str [110, 117, 109], .str [48], .slice 5 [], .slice 6 q4, .int .i64 26]], .slice 6 [.agg [.int .i64 2, .str [], .bool false, .slice 6 [], .slice 5 [], .int .i64 0]], .int .i64 24]], .slice 8 [.agg [.str [115, 101, 116], .str [120, 35, 49], .slice 6 [], .slice 5 [.agg [.str [110, 117, 109], .str [50], .slice 5 [], .slice 6 q4, .int .i64 35]], .slice 8 [], .slice 8 [], .slice 4 [], .int .i64 31]], .slice 8 [], .slice 4 [.agg [.str [120], .str [120, 35, 50], .str [120, 35, 49], .str [120, 35, 48]]], .int .i64 18], .agg [.str [112, 114, 105, 110, 116], .str [], .slice 6 [], .slice 5 [.agg [.str [118, 97, 114], .str [120, 35, 50], .slice 5 [], .slice 6 q4, .int .i64 46]], .slice 8 [], .slice 8 [], .slice 4 [], .int .i64 40]], [], [])
def base0 : Calc := fun f a o => match f, a, o with
  | 98, [.str s, .str [35]], [] => some (.int .i64 (Lib.indexByte s 35), [], [])
  | 53, [.int .i64 n], [] => if (decide (0 ≤ n) && decide (n ≤ 99)) = true then some (.str (itoa n.toNat), [], []) else none
  | 154, [.slice 1 [x]], [] => some (.tup [], [], [])
  | _, _, _ => none
theorem sort_ok {B : Heap} {x : V} : Ok B 154 [.slice 1 [x]] [] (.tup []) [] [] := by
  refine callOk_grow Tryz.call154 rfl fun H μ w us hu hb => ?_
  obtain ⟨u, rfl, hx⟩ := repArgs1 hu
  have hx' : ∃ p c, u = .slice p 1 c := by
    cases hx with
    | two _ _ h => cases h with | one _ _ h => cases h with | data _ _ h => cases h with
      | slice _ _ b off c hr hc => exact ⟨some ⟨b, off, none⟩, c, rfl⟩
  obtain ⟨p, c, rfl⟩ := hx'
  refine (sort1 p c w).mono ?_
  rintro e w' ⟨rfl, rfl⟩
  exact ⟨_, rfl, fun H' μ' => .tup _ _ .nil, RowKit.Below.refl _ _⟩
theorem base0_ok {K} : CalcOk Tryz.prog (bs K) base0 := by
  intro f a o r o' n h
  unfold base0 at h
  split at h
  · cases h
    rw [COk.lt (by decide)]
    exact index_ok
  · rename_i n
    split at h
    · rename_i hn
      simp only [Bool.and_eq_true, decide_eq_true_eq] at hn
      cases h
      rw [COk.lt (by decide)]
      have := itoa_ok (K := K) (n := n.toNat) (by omega)
      rwa [Int.toNat_of_nonneg hn.1] at this
    · cases h
  · cases h
    rw [COk.lt (by decide)]
    exact sort_ok
  · cases h
end Go.Proofs.YtcdoebbffjejeaaGreatDoor
