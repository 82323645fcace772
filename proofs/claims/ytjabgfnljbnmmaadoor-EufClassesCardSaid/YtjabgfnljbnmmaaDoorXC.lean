/- A part of the proof of a law of this seat: no condition. -/
import Derived.Test.YtjabgfnljbnmmaaDoorXB
import Derived.Test.YtjabgfnljbnmmaaDoorE2
import Derived.Test.YtjabgfnljbnmmaaDoorE12
import Derived.Test.YtjabgfnljbnmmaaDoorD4
import Derived.Test.YtjabgfnljbnmmaaDoorD1
import Derived.Test.YtjabgfnljbnmmaaDoorE8
import Derived.Test.YtjabgfnljbnmmaaDoorE16
import Derived.Test.YtjabgfnljbnmmaaDoorA9
set_option linter.unusedVariables false
set_option linter.unusedSimpArgs false
set_option maxRecDepth 20000
set_option maxHeartbeats 4000000
namespace Go.Proofs.YtjabgfnljbnmmaaDoor
open Go.Ax
attribute [-simp] List.map_set
abbrev lsV (l : List Nat) : V := .slice 1 (l.map nV)
abbrev obs10 (G : GS) (leave : Int) (W : List (List Nat)) (n : Nat) : List (Oid × Ob) :=
 gSub 19 G ++ [(.sub 60 0, .cells false [.ref (.sub 19 0) 0]), (.loc 3, .cells false [iV leave]), (.loc 4, .cells false [.bool false]), (.loc 9, .cells false [.own 1 (W.map lsV)]), (.loc 13, .cells false [nV n])]
abbrev env10 : List (Nat × V) := [(3, .ref (.loc 3) 0), (4, .ref (.loc 4) 0), (9, .ref (.loc 9) 0), (13, .ref (.loc 13) 0), (60, .clo 40 [] [.ref (.sub 60 0) 0])]
abbrev st10 (G : GS) (leave : Int) (W : List (List Nat)) (n : Nat) : St := ⟨env10, obs10 G leave W n⟩
abbrev vs40 (N i : Nat) : List V := [.any, .ref (.sub 60 0) 0, .any, .any, .any, .any, .any, .any, .any, nV N, nV i, .any, .any, .any, .any, .any, .any, .any, .any, .any, .any, .any, .any, .any, .any, .any, .any, .any, .any, .any, .any, .any, .any, .any, .any, .any, .any]
abbrev args40 (N i : Nat) : List V := [.any, .ref (.par 0) 0, .any, .any, .any, .any, .any, .any, .any, nV N, nV i, .any, .any, .any, .any, .any, .any, .any, .any, .any, .any, .any, .any, .any, .any, .any, .any, .any, .any, .any, .any, .any, .any, .any, .any, .any, .any]
abbrev gPar1 (G : GS) : List Ob :=
 [.cells false [.own 2 (G.N.map ndV), .mp (.par 2), .own 2 (G.E.map prV), .sl 1 (.par 3) G.P.length, .sl 1 (.par 4) G.C.length, .sl 1 (.par 5) G.U.length, .mp (.par 6), .sl 3 (.par 7) G.D.length],
  .map G.bw (G.W.map kvV), .cells true (G.P.map nV), .cells true (G.C.map rowV), .cells true (G.U.map rowV), .map G.bs (G.S.map kvV), .cells true (G.D.flatMap edC)]
abbrev objs40 (G : GS) : List Ob := .cells false [.ref (.par 1) 0] :: gPar1 G
theorem call40 {G : GS} {leave W n N i} : (callO none 1 40 (vs40 N i) (some 61)).run (st10 G leave W n) =
  some (.call 40 (args40 N i) (objs40 G) 1 ⟨[], [.sub 60 0, .sub 19 0, .sub 19 1, .sub 19 2, .sub 19 3, .sub 19 4, .sub 19 5, .sub 19 6], [3, 4, 5, 7], some 61⟩) := by
 simp
set_option maxHeartbeats 4000000
abbrev gIn1 (G : GS) : List (Oid × Ob) :=
 [(.par 0, .cells false [.ref (.par 1) 0]),
  (.par 1, .cells false [.own 2 (G.N.map ndV), .mp (.par 2), .own 2 (G.E.map prV), .sl 1 (.alt (.par 3)) G.P.length, .sl 1 (.alt (.par 4)) G.C.length, .sl 1 (.alt (.par 5)) G.U.length, .mp (.par 6), .sl 3 (.alt (.par 7)) G.D.length]),
  (.par 2, .map G.bw (G.W.map kvV)), (.alt (.par 3), .cells true (G.P.map nV)), (.alt (.par 4), .cells true (G.C.map rowV)), (.alt (.par 5), .cells true (G.U.map rowV)), (.par 6, .map G.bs (G.S.map kvV)), (.alt (.par 7), .cells true (G.D.flatMap edC))]
theorem i1_ok {B : Heap} {G : GS} {N i : Nat} : acwp (COk Tryd.prog B) ci1 (initM (mvOf (args40 N i) (objs40 G)) (args40 N i) (objs40 G))
  fun e st => e = .normal ∧ st = ⟨[(0, .any), (1, .ref (.par 0) 0), (9, nV N), (10, nV i), (11, .bool (decide (i < N)))], gIn1 G⟩ := by
 have hp : True := trivial
 repeat' first | refine w0 ?_ | refine w1 ?_ | ((first | refine w2 ?_ | refine w3 ?_ | refine w4 ?_ | refine w5 ?_); intro K hK; simp (maxSteps := 4000000) +contextual [hp]; (try (refine finD rfl ?_; simp)); refine hK _ ?_; clear hK K) | ((first | refine w6 rfl ?_ ?_ | refine w7 rfl ?_ ?_) <;> (intro h; replace hp := And.intro h hp; clear h; try simp only [z0, z1, z2, z3, z4, z5, z6, z7, z8, z9, z10, z11, z12] at hp)) | refine w8 ?_ | refine w9 ?_ | refine w10 ?_ | refine w11 ?_ | refine w12 ?_ | refine w13 ?_ | refine w14 ?_ | refine w15 ?_ | refine w16 ?_ | refine w17 ?_ | refine w18 ?_ | refine w19 ?_ | refine w20 ?_ | refine w21 (by decide) ?_ | refine w22 ?_
 simp
theorem i2_ok {B : Heap} {G : GS} {N i : Nat} {x : V} : acwp (COk Tryd.prog B) ci2 ⟨[(0, .any), (1, .ref (.par 0) 0), (9, nV N), (10, nV i), (11, x)], gIn1 G⟩
  fun e st => e = .normal ∧ st = ⟨[(0, .any), (1, .ref (.par 0) 0), (3, nV i), (9, nV N), (10, nV i)], gIn1 G⟩ := by
 have hp : True := trivial
 repeat' first | refine w0 ?_ | refine w1 ?_ | ((first | refine w2 ?_ | refine w3 ?_ | refine w4 ?_ | refine w5 ?_); intro K hK; simp (maxSteps := 4000000) +contextual [hp]; (try (refine finD rfl ?_; simp)); refine hK _ ?_; clear hK K) | ((first | refine w6 rfl ?_ ?_ | refine w7 rfl ?_ ?_) <;> (intro h; replace hp := And.intro h hp; clear h; try simp only [z0, z1, z2, z3, z4, z5, z6, z7, z8, z9, z10, z11, z12] at hp)) | refine w8 ?_ | refine w9 ?_ | refine w10 ?_ | refine w11 ?_ | refine w12 ?_ | refine w13 ?_ | refine w14 ?_ | refine w15 ?_ | refine w16 ?_ | refine w17 ?_ | refine w18 ?_ | refine w19 ?_ | refine w20 ?_ | refine w21 (by decide) ?_ | refine w22 ?_
 simp
theorem i3_ok {B : Heap} {G : GS} {N i r k : Nat} {l : List Nat} (hi : i < G.N.length) (hr : Rt G.P i r k) (hlc : r < G.C.length) (hC : nth G.C r = l) (hne : l ≠ []) (hl : l.length ≤ 1000000) :
  acwp (COk Tryd.prog B) ci3 ⟨[(0, .any), (1, .ref (.par 0) 0), (3, nV i), (9, nV N), (10, nV i)], gIn1 G⟩
  fun e st => e = .normal ∧ st = ⟨[(0, .any), (1, .ref (.par 0) 0), (3, nV i), (4, .sl 1 (.sub 22 0) l.length), (9, nV N), (10, nV i)], gIn1 G ++ [(.sub 22 0, .cells true (l.map nV))]⟩ := by
 have hp : True := trivial
 refine c_regD fun K hK => ?_
 simp (maxSteps := 4000000) +contextual [hlc, hC, hp]
 refine callK (root_p hr) (by simp) ?_
 simp (maxSteps := 4000000) +contextual [hlc, hC, hp]
 refine callK (cloneM hne hl) (by simp) ?_
 simp (maxSteps := 4000000) +contextual [hlc, hC, hp]
 refine finD rfl ?_
 simp
 refine hK _ ?_
 clear hK K
 simp
def srtN (l : List Nat) : List Nat := (srt (l.map fun (n : Nat) => (n : Int))).map Int.toNat
theorem srtN_row (l : List Nat) : (srtN l).map nV = iRow (srt (l.map fun (n : Nat) => (n : Int))) := by
 unfold srtN iRow
 rw [List.map_map]
 apply List.map_congr_left
 intro z hz
 have : z ∈ l.map fun (n : Nat) => (n : Int) := by
  unfold srt at hz
  exact (List.mem_mergeSort).1 hz
 obtain ⟨n, _, rfl⟩ := List.mem_map.1 this
 simp
theorem srtN_len (l : List Nat) : (srtN l).length = l.length := by
 unfold srtN; rw [List.length_map, srt_len, List.length_map]
theorem sort_okN {B : Heap} {l : List Nat} (hne : l ≠ []) (hl : l.length ≤ 1000000) : Ok B 41 [.sl 1 (.par 0) l.length] [.cells true (l.map nV)] (.tup []) [.cells true ((srtN l).map nV)] [] := by
 have h := sort_ok (B := B) (l := l.map fun (n : Nat) => (n : Int)) (by simpa using hne) (by simpa using hl)
 rw [srtN_row]
 rw [List.length_map] at h
 have e : iRow (l.map fun (n : Nat) => (n : Int)) = l.map nV := by unfold iRow; rw [List.map_map]; rfl
 rw [e] at h
 exact h
theorem i4_ok {B : Heap} {G : GS} {N i : Nat} {l : List Nat} (hne : l ≠ []) (hl : l.length ≤ 1000000) :
  acwp (COk Tryd.prog B) ci4 ⟨[(0, .any), (1, .ref (.par 0) 0), (3, nV i), (4, .sl 1 (.sub 22 0) l.length), (9, nV N), (10, nV i)], gIn1 G ++ [(.sub 22 0, .cells true (l.map nV))]⟩
  fun e st => e = .normal ∧ st = ⟨[(0, .any), (1, .ref (.par 0) 0), (3, nV i), (4, .sl 1 (.sub 22 0) l.length), (9, nV N), (10, nV i)], gIn1 G ++ [(.sub 22 0, .cells true ((srtN l).map nV))]⟩ := by
 have hp : True := trivial
 refine c_reg fun K hK => ?_
 simp (maxSteps := 4000000) +contextual [hp]
 refine callK (sort_okN hne hl) (by simp) ?_
 simp (maxSteps := 4000000) +contextual [hp]
 refine hK _ ?_
 clear hK K
 simp
abbrev hin5 : Hint := ⟨[0, 1, 3, 4, 9, 10, 30], [.par 0, .par 1, .par 2, .par 3, .par 4, .par 5, .par 6, .par 7, .sub 22 0], [.par 3, .par 4, .par 5, .par 7]⟩
theorem i5_ok {B : Heap} {G : GS} {N i : Nat} {l : List Nat} {n : Nat} (hn : n = l.length) (hne : 0 < l.length) {Q : St → Prop}
  (h : Q ⟨[(0, .any), (1, .ref (.par 0) 0), (3, nV i), (4, .sl 1 (.sub 22 0) n), (9, nV N), (10, nV i), (30, .bool (decide (((nth l 0 : Nat) : Int) = (i : Int))))], gIn1 G ++ [(.sub 22 0, .cells true (l.map nV))]⟩) :
  runA (COk Tryd.prog B) hin5 c5a ⟨[(0, .any), (1, .ref (.par 0) 0), (3, nV i), (4, .sl 1 (.sub 22 0) n), (9, nV N), (10, nV i)], gIn1 G ++ [(.sub 22 0, .cells true (l.map nV))]⟩ Q := by
 subst hn
 unfold c5a
 simp [hne]
 exact Ax.fin h
abbrev vs6 (N i : Nat) : List V := [.any, .any, .any, .any, .any, .any, .any, .any, .any, nV N, nV i, .any, .any, .any, .any, .any, .any, .any, .any, .any, .any, .any, .any, .any, .any, .any, .any, .any, .any, .any, .any, .any, .any, .any, .any, .any, .any]
abbrev vs0 : List V := [.any, .ref (.sub 60 0) 0, .any, .any, .any, .any, .any, .any, .any, .any, .any, .any, .any, .any, .any, .any, .any, .any, .any, .any, .any, .any, .any, .any, .any, .any, .any, .any, .any, .any, .any, .any, .any, .any, .any, .any, .any]
abbrev args0 : List V := [.any, .ref (.par 0) 0, .any, .any, .any, .any, .any, .any, .any, .any, .any, .any, .any, .any, .any, .any, .any, .any, .any, .any, .any, .any, .any, .any, .any, .any, .any, .any, .any, .any, .any, .any, .any, .any, .any, .any, .any]
theorem i6_ok {B : Heap} {i j : Nat} (hj : IntKind.wrap .i64 ((i : Int) + 1) = (j : Int)) {N : Nat} : acwp (COk Tryd.prog B) ci6 (initM (mvOf (vs6 N i) []) (vs6 N i) [])
  fun e st => e = .normal ∧ st = ⟨[(0, .any), (1, .any), (9, nV N), (10, nV j)], []⟩ := by
 have hp : True := trivial
 repeat' first | refine w0 ?_ | refine w1 ?_ | ((first | refine w2 ?_ | refine w3 ?_ | refine w4 ?_ | refine w5 ?_); intro K hK; simp (maxSteps := 4000000) +contextual [hj, hp]; (try (refine finD rfl ?_; simp)); refine hK _ ?_; clear hK K) | ((first | refine w6 rfl ?_ ?_ | refine w7 rfl ?_ ?_) <;> (intro h; replace hp := And.intro h hp; clear h; try simp only [z0, z1, z2, z3, z4, z5, z6, z7, z8, z9, z10, z11, z12] at hp)) | refine w8 ?_ | refine w9 ?_ | refine w10 ?_ | refine w11 ?_ | refine w12 ?_ | refine w13 ?_ | refine w14 ?_ | refine w15 ?_ | refine w16 ?_ | refine w17 ?_ | refine w18 ?_ | refine w19 ?_ | refine w20 ?_ | refine w21 (by decide) ?_ | refine w22 ?_
 simp
theorem i0_ok {B : Heap} {G : GS} : acwp (COk Tryd.prog B) ci0 (initM (mvOf args0 (objs40 G)) args0 (objs40 G))
  fun e st => e = .normal ∧ st = ⟨[(0, .any), (1, .ref (.par 0) 0), (9, nV G.N.length), (10, nV 0)], gIn1 G⟩ := by
 have hp : True := trivial
 repeat' first | refine w0 ?_ | refine w1 ?_ | ((first | refine w2 ?_ | refine w3 ?_ | refine w4 ?_ | refine w5 ?_); intro K hK; simp (maxSteps := 4000000) +contextual [hp]; (try (refine finD rfl ?_; simp)); refine hK _ ?_; clear hK K) | ((first | refine w6 rfl ?_ ?_ | refine w7 rfl ?_ ?_) <;> (intro h; replace hp := And.intro h hp; clear h; try simp only [z0, z1, z2, z3, z4, z5, z6, z7, z8, z9, z10, z11, z12] at hp)) | refine w8 ?_ | refine w9 ?_ | refine w10 ?_ | refine w11 ?_ | refine w12 ?_ | refine w13 ?_ | refine w14 ?_ | refine w15 ?_ | refine w16 ?_ | refine w17 ?_ | refine w18 ?_ | refine w19 ?_ | refine w20 ?_ | refine w21 (by decide) ?_ | refine w22 ?_
 simp
set_option maxHeartbeats 4000000
abbrev env14 (x : V) : List (Nat × V) := [(3, .ref (.loc 3) 0), (4, .ref (.loc 4) 0), (9, .ref (.loc 9) 0), (13, .ref (.loc 13) 0), (14, x), (60, .clo 40 [] [.ref (.sub 60 0) 0])]
abbrev env61 (x : V) : List (Nat × V) := [(3, .ref (.loc 3) 0), (4, .ref (.loc 4) 0), (9, .ref (.loc 9) 0), (13, .ref (.loc 13) 0), (60, .clo 40 [] [.ref (.sub 60 0) 0]), (61, x)]
theorem asg_ok {B : Heap} {G : GS} {leave W n} {l : List Nat} : acwp (COk Tryd.prog B) casg10 ⟨env61 (lsV l), obs10 G leave W n⟩
  fun e st => e = .normal ∧ st = ⟨env14 (lsV l), obs10 G leave W n⟩ := by
 have hp : True := trivial
 repeat' first | refine w0 ?_ | refine w1 ?_ | ((first | refine w2 ?_ | refine w3 ?_ | refine w4 ?_ | refine w5 ?_); intro K hK; simp (maxSteps := 4000000) +contextual [hp]; (try (refine finD rfl ?_; simp)); refine hK _ ?_; clear hK K) | ((first | refine w6 rfl ?_ ?_ | refine w7 rfl ?_ ?_) <;> (intro h; replace hp := And.intro h hp; clear h; try simp only [z0, z1, z2, z3, z4, z5, z6, z7, z8, z9, z10, z11, z12] at hp)) | refine w8 ?_ | refine w9 ?_ | refine w10 ?_ | refine w11 ?_ | refine w12 ?_ | refine w13 ?_ | refine w14 ?_ | refine w15 ?_ | refine w16 ?_ | refine w17 ?_ | refine w18 ?_ | refine w19 ?_ | refine w20 ?_ | refine w21 (by decide) ?_ | refine w22 ?_
 simp
theorem bdy_ok {B : Heap} {G : GS} {leave W} {n m : Nat} {l : List Nat} (hm : m = n + 1) (hn : n < W.length) (hl : nth W n = l) (hll : l.length ≤ 1000000) (hWl : W.length ≤ 1000000) : acwp (COk Tryd.prog B) cbdy10 ⟨env14 (lsV l), obs10 G leave W n⟩
  fun e st => (∃ x, st = ⟨env10 ++ [(79, x)], obs10 G leave W m⟩) ∧ ((e = .normal ∧ ¬ (m : Int) = leave) ∨ (e = .exit 4 ∧ (m : Int) = leave)) := by
 have hp : True := trivial
 have ha : Ok B 19 [.slice 1 (l.map nV), .slice 1 (l.map nV)] [] (.bool true) [] [] := by simpa using alike_ok (B := B) (xs := l) (ys := l) hll hll
 have h1 : ¬ (W.length : Int) ≤ (n : Int) := by omega
 have h2 : ¬ (n : Int) ≥ (W.length : Int) := by omega
 have h3 : ¬ W.length ≤ n := by omega
 have hw : IntKind.wrap .i64 ((n : Int) + 1) = (m : Int) := wrapN (by omega) (by omega)
 refine c_block ?_
 refine s_seq ?_
 refine s_reg fun K hK => ?_
 simp (maxSteps := 4000000) +contextual [hn, hl, h1, h2, h3, hp]
 refine callK ha (by simp) ?_
 simp (maxSteps := 4000000) +contextual [hn, hl, h1, h2, h3, hp]
 refine hK _ ?_
 clear hK K
 by_cases hv : (m : Int) = leave
 ·skip
  repeat' first | refine w0 ?_ | refine w1 ?_ | ((first | refine w2 ?_ | refine w3 ?_ | refine w4 ?_ | refine w5 ?_); intro K hK; simp (maxSteps := 4000000) +contextual [hw, hv, hp]; (try (refine finD rfl ?_; simp)); refine hK _ ?_; clear hK K) | ((first | refine w6 rfl ?_ ?_ | refine w7 rfl ?_ ?_) <;> (intro h; replace hp := And.intro h hp; clear h; try simp only [z0, z1, z2, z3, z4, z5, z6, z7, z8, z9, z10, z11, z12] at hp)) | refine w8 ?_ | refine w9 ?_ | refine w10 ?_ | refine w11 ?_ | refine w12 ?_ | refine w13 ?_ | refine w14 ?_ | refine w15 ?_ | refine w16 ?_ | refine w17 ?_ | refine w18 ?_ | refine w19 ?_ | refine w20 ?_ | refine w21 (by decide) ?_ | refine w22 ?_
  all_goals simp [hv]
 ·skip
  repeat' first | refine w0 ?_ | refine w1 ?_ | ((first | refine w2 ?_ | refine w3 ?_ | refine w4 ?_ | refine w5 ?_); intro K hK; simp (maxSteps := 4000000) +contextual [hw, hv, hp]; (try (refine finD rfl ?_; simp)); refine hK _ ?_; clear hK K) | ((first | refine w6 rfl ?_ ?_ | refine w7 rfl ?_ ?_) <;> (intro h; replace hp := And.intro h hp; clear h; try simp only [z0, z1, z2, z3, z4, z5, z6, z7, z8, z9, z10, z11, z12] at hp)) | refine w8 ?_ | refine w9 ?_ | refine w10 ?_ | refine w11 ?_ | refine w12 ?_ | refine w13 ?_ | refine w14 ?_ | refine w15 ?_ | refine w16 ?_ | refine w17 ?_ | refine w18 ?_ | refine w19 ?_ | refine w20 ?_ | refine w21 (by decide) ?_ | refine w22 ?_
  all_goals simp [hv]
abbrev hcan (live : List Nat) : Hint := ⟨live, [.sub 19 0, .sub 19 1, .sub 19 2, .sub 19 3, .sub 19 4, .sub 19 5, .sub 19 6, .sub 60 0, .loc 3, .loc 4, .loc 9, .loc 13], []⟩
theorem can79 {G : GS} {leave W n x} : restrict (hcan [3, 4, 9, 13, 60]) ⟨env10 ++ [(79, x)], obs10 G leave W n⟩ = st10 G leave W n := by simp
abbrev way40 : Ax.Way := ⟨[], [.sub 60 0, .sub 19 0, .sub 19 1, .sub 19 2, .sub 19 3, .sub 19 4, .sub 19 5, .sub 19 6], [3, 4, 5, 7], some 61⟩
theorem canN {G : GS} {leave W n} : restrict (hcan [3, 4, 9, 13, 60]) ((st10 G leave W n).app (back way40 (.tup []) (objs40 G) [])) = st10 G leave W n := by
 simp
theorem can61 {G : GS} {leave W n} {l : List Nat} : ((st10 G leave W n).app (back way40 (.sl 1 (.sub 0 0) l.length) (objs40 G) [.cells true (l.map nV)])).ob (.sub 61 0) = some (.cells true (l.map nV)) ∧
  ((st10 G leave W n).app (back way40 (.sl 1 (.sub 0 0) l.length) (objs40 G) [.cells true (l.map nV)])).tm 61 = .sl 1 (.sub 61 0) l.length ∧
  restrict (hcan [3, 4, 9, 13, 60]) ((st10 G leave W n).app (back way40 (.sl 1 (.sub 0 0) l.length) (objs40 G) [.cells true (l.map nV)])) = st10 G leave W n ∧
  restrict (hcan [3, 4, 9, 13, 60, 61]) ((((st10 G leave W n).app (back way40 (.sl 1 (.sub 0 0) l.length) (objs40 G) [.cells true (l.map nV)])).putO (.sub 61 0) .dead).put 61 (lsV l)) = ⟨env61 (lsV l), obs10 G leave W n⟩ := by
 refine ⟨?_, ?_, ?_, ?_⟩
 ·simp
 ·simp
 ·simp
 ·simp
set_option maxHeartbeats 4000000
abbrev o31 : Oper := ⟨some 31, .move (.tmp 0), 88, "euf.go:224", #[⟨5, .guard⟩], some (5, true)⟩
abbrev o32 : Oper := ⟨some 32, .move (.tmp 4), 31, "euf.go:224", #[⟨5, .guard⟩], some (5, true)⟩
abbrev o33 : Oper := ⟨some 33, .call ⟨.value (.tmp 31), #[.tmp 32], #[31]⟩, 4, "euf.go:224", #[⟨6, .data⟩, ⟨7, .data⟩, ⟨5, .chain⟩, ⟨5, .guard⟩], some (5, true)⟩
abbrev o34 : Oper := ⟨some 34, .unOp .not 4 (.tmp 33), 4, "euf.go:224", #[⟨8, .data⟩, ⟨5, .guard⟩], some (5, true)⟩
abbrev o35 : Oper := ⟨some 35, .pick (.tmp 30) (.tmp 34) (.const (.bool false)), 4, "euf.go:224", #[⟨5, .data⟩, ⟨9, .data⟩], none⟩
theorem ops5_eq : ops5 = ops5.take 6 ++ [o31, o32, o33, o34, o35] := by kernel_rfl
theorem b40_eq : b40 = .seq i0 (.block 0 (.loop (.seq i1 (.seq (.cond (.tmp 11) .skip (.exit 0)) (.seq (.block 1 (.seq i2 (.seq i3 (.seq i4 (.seq (.region 5 ops5.toArray false) (.cond (.tmp 35) .ret .skip)))))) i6))))) := by kernel_rfl
theorem b10_eq : Tryd.f10.body = some b10 := by kernel_rfl
theorem b40_eq' : Tryd.f40.body = some b40 := by kernel_rfl
theorem cut10 : cutRF b10 = some (pre10, (.tmp 60, #[61], asg10, bdy10), 4, tl10) := by kernel_rfl
theorem y5 {tmps : Array Value} : yielded ops5.toArray tmps 5 = match tmps[30]? with | some (Value.bool b) => some b | _ => none := by
 have : (ops5.toArray[5]?).bind (·.dst) = some 30 := by kernel_rfl
 unfold yielded
 rw [this]
 rfl
section
variable {n : Nat} {P : Program} {a : Act} {w : World} {K : Exit → Act → World → Prop}
theorem put_tmps (a : Act) (d : Nat) (v : Value) (t : Nat) : (a.put (some d) v).tmps[t]? = if d = t then (if d < a.tmps.size then some v else none) else a.tmps[t]? := by
 simp only [Act.put, Array.getElem?_setIfInBounds]
theorem put_size (a : Act) (d : Nat) (v : Value) : (a.put (some d) v).tmps.size = a.tmps.size := by simp [Act.put]
theorem eval_tmp {a : Act} {t : Nat} {v : Value} (h : a.tmps[t]? = some v) : a.eval (.tmp t) = v := by
 simp only [Act.eval, Array.getD_eq_getD_getElem?, h]; rfl
theorem r5_no (hs : a.tmps.size = 37) (h30 : a.tmps[30]? = some (.bool false))
  (h : ∀ a', a'.defers = a.defers → a'.tmps.size = 37 → (∀ t, t < 31 → a'.tmps[t]? = a.tmps[t]?) → a'.tmps[35]? = some (.bool false) → K .normal a' w) :
  wpListIn Fence.wide n P ops5.toArray K [o31, o32, o33, o34, o35] a w := by
 have hw : ∀ (o : Oper) (a : Act), o.guard = some (5, true) → a.tmps[30]? = some (.bool false) → Region.wanted o (yielded ops5.toArray a.tmps) = false := by
  intro o a e1 e2
  simp only [Region.wanted, e1, y5, e2]; rfl
 simp only [wpListIn]
 rw [if_neg (by rw [hw _ _ rfl h30]; simp)]
 refine ⟨fun _ _ => trivial, ?_⟩
 rw [if_neg (by rw [hw _ _ rfl (by rw [put_tmps]; simp [h30])]; simp)]
 refine ⟨fun _ _ => trivial, ?_⟩
 rw [if_neg (by rw [hw _ _ rfl (by rw [put_tmps, if_neg (by decide), put_tmps, if_neg (by decide)]; exact h30)]; simp)]
 refine ⟨fun _ _ => trivial, ?_⟩
 rw [if_neg (by rw [hw _ _ rfl (by rw [put_tmps, if_neg (by decide), put_tmps, if_neg (by decide), put_tmps, if_neg (by decide)]; exact h30)]; simp)]
 refine ⟨fun _ _ => trivial, ?_⟩
 rw [if_pos (by rfl)]
 refine ⟨fun _ _ => trivial, ?_⟩
 generalize hb : (((a.put (some 31) undef).put (some 32) undef).put (some 33) undef).put (some 34) undef = b
 have hb30 : b.tmps[30]? = some (.bool false) := by
  rw [← hb]; simp only [put_tmps, if_neg (show ¬ (31 : Nat) = 30 by decide), if_neg (show ¬ (32 : Nat) = 30 by decide), if_neg (show ¬ (33 : Nat) = 30 by decide), if_neg (show ¬ (34 : Nat) = 30 by decide)]; exact h30
 have hbs : b.tmps.size = 37 := by rw [← hb]; simp only [put_size, hs]
 have he : (o35.semAt Fence.wide.round b.eval).run P w = .ok (.value (.bool false)) w := by
  show (execOp b.eval o35).run P w = _
  simp only [execOp, eval_tmp hb30]
  rfl
 rw [he]
 show K .normal (b.put (some 35) (.bool false)) w
 refine h _ ?_ (by rw [put_size, hbs]) (fun t ht => ?_) (by rw [put_tmps, if_pos rfl, if_pos (by omega)])
 ·rw [← hb]; rfl
 ·rw [put_tmps, if_neg (by omega), ← hb]
  simp only [put_tmps, if_neg (show ¬ (31 : Nat) = t by omega), if_neg (show ¬ (32 : Nat) = t by omega), if_neg (show ¬ (33 : Nat) = t by omega), if_neg (show ¬ (34 : Nat) = t by omega)]
theorem r5_yes {l : Nat} {r : Loop} {u : Value} (hs : a.tmps.size = 37) (h30 : a.tmps[30]? = some (.bool true)) (h0 : a.tmps[0]? = some (.func (.yield l) #[] #[])) (h4 : a.tmps[4]? = some u)
  (hl : w.heap[l]? = some (.loop r)) (hp : r.params = #[61])
  (h : RoundIn Fence.wide (n - 1) P l r.fn (r.tmps.setIfInBounds 61 u) r.assign r.body w fun e w'' => ∃ x, e = .returned (.bool x) ∧
   ∀ a', a'.defers = a.defers → a'.tmps.size = 37 → (∀ t, t < 31 → a'.tmps[t]? = a.tmps[t]?) → a'.tmps[35]? = some (.bool (!x)) → K .normal a' w'') :
  wpListIn Fence.wide n P ops5.toArray K [o31, o32, o33, o34, o35] a w := by
 have hw : ∀ (o : Oper) (a : Act), o.guard = some (5, true) → a.tmps[30]? = some (.bool true) → Region.wanted o (yielded ops5.toArray a.tmps) = true := by
  intro o a e1 e2
  simp only [Region.wanted, e1, y5, e2]; rfl
 simp only [wpListIn]
 rw [if_pos (hw _ _ rfl h30)]
 refine ⟨fun _ _ => trivial, ?_⟩
 have e1 : (o31.semAt Fence.wide.round a.eval).run P w = .ok (.value (.func (.yield l) #[] #[])) w := by
  show (execOp a.eval o31).run P w = _
  simp only [execOp, eval_tmp h0]; rfl
 rw [e1]
 rw [Oper.uponIn_value]
 rw [if_pos (hw _ _ rfl (by rw [put_tmps]; simp [h30]))]
 refine ⟨fun _ _ => trivial, ?_⟩
 generalize hb : a.put (some 31) (.func (.yield l) #[] #[]) = b
 have hb4 : b.tmps[4]? = some u := by rw [← hb, put_tmps, if_neg (by decide)]; exact h4
 have e2 : (o32.semAt Fence.wide.round b.eval).run P w = .ok (.value u) w := by
  show (execOp b.eval o32).run P w = _
  simp only [execOp, eval_tmp hb4]; rfl
 rw [e2]
 rw [Oper.uponIn_value]
 generalize hc : b.put (some 32) u = c
 have hcs : c.tmps.size = 37 := by rw [← hc, put_size, ← hb, put_size, hs]
 have hc30 : c.tmps[30]? = some (.bool true) := by rw [← hc, put_tmps, if_neg (by decide), ← hb, put_tmps, if_neg (by decide)]; exact h30
 have hc31 : c.tmps[31]? = some (.func (.yield l) #[] #[]) := by rw [← hc, put_tmps, if_neg (by decide), ← hb, put_tmps, if_pos rfl, if_pos (by omega)]
 have hc32 : c.tmps[32]? = some u := by rw [← hc, put_tmps, if_pos rfl, if_pos (by rw [← hb, put_size]; omega)]
 have hct : ∀ t, t < 31 → c.tmps[t]? = a.tmps[t]? := fun t ht => by
  rw [← hc, put_tmps, if_neg (by omega), ← hb, put_tmps, if_neg (by omega)]
 have hcd : c.defers = a.defers := by rw [← hc, ← hb]; rfl
 rw [if_pos (hw _ _ rfl hc30)]
 refine ⟨fun _ _ => trivial, ?_⟩
 have e3 : (o33.semAt Fence.wide.round c.eval).run P w = .ok (.round l r.fn (r.tmps.setIfInBounds 61 u) r.assign r.body) w := by
  show (execOp c.eval o33).run P w = _
  have hy := run_yield (P := P) (args := #[u]) hl (by rw [hp]; rfl)
  rw [hp] at hy
  simp only [execOp, resolve, Deferred.ofValue, eval_tmp hc31, eval_tmp hc32, Array.map, List.map, Sem.run_bind, Sem.run_pure, Result.andThen]
  simpa [invoke, Deferred.ofValue, eval_tmp hc31, eval_tmp hc32, Result.andThen] using hy
 rw [e3, Oper.uponIn_round]
 refine ⟨(fun h => by cases h), RoundIn.mono h ?_⟩
 rintro e w'' ⟨x, rfl, hk⟩
 show wpListIn Fence.wide n P ops5.toArray K [o34, o35] (c.put (some 33) (.bool x)) w''
 simp only [wpListIn]
 generalize hd : c.put (some 33) (.bool x) = d
 have hd33 : d.tmps[33]? = some (.bool x) := by rw [← hd, put_tmps, if_pos rfl, if_pos (by omega)]
 have hd30 : d.tmps[30]? = some (.bool true) := by rw [← hd, put_tmps, if_neg (by decide)]; exact hc30
 have hds : d.tmps.size = 37 := by rw [← hd, put_size, hcs]
 have e4 : (o34.semAt Fence.wide.round d.eval).run P w'' = .ok (.value (.bool (!x))) w'' := by
  show (execOp d.eval o34).run P w'' = _
  simp only [execOp, eval_tmp hd33]; rfl
 rw [if_pos (hw _ _ rfl hd30)]
 refine ⟨fun _ _ => trivial, ?_⟩
 rw [e4, Oper.uponIn_value]
 rw [if_pos (by rfl)]
 refine ⟨fun _ _ => trivial, ?_⟩
 generalize he : d.put (some 34) (.bool (!x)) = e
 have he34 : e.tmps[34]? = some (.bool (!x)) := by rw [← he, put_tmps, if_pos rfl, if_pos (by omega)]
 have he30 : e.tmps[30]? = some (.bool true) := by rw [← he, put_tmps, if_neg (by decide)]; exact hd30
 have hes : e.tmps.size = 37 := by rw [← he, put_size, hds]
 have e5 : (o35.semAt Fence.wide.round e.eval).run P w'' = .ok (.value (.bool (!x))) w'' := by
  show (execOp e.eval o35).run P w'' = _
  simp only [execOp, eval_tmp he30, eval_tmp he34]; rfl
 rw [e5, Oper.uponIn_value]
 refine hk _ ?_ (by rw [put_size, hes]) (fun t ht => ?_) (by rw [put_tmps, if_pos rfl, if_pos (by omega)])
 ·rw [← he, ← hd]; exact hcd
 ·rw [put_tmps, if_neg (by omega), ← he, put_tmps, if_neg (by omega), ← hd, put_tmps, if_neg (by omega)]
  exact hct t ht
end
end Go.Proofs.YtjabgfnljbnmmaaDoor
