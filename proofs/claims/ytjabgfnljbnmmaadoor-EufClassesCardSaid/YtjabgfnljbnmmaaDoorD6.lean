/- A part of the proof of a law of this seat: no condition. -/
import Derived.Test.YtjabgfnljbnmmaaDoorD1
import Derived.Test.YtjabgfnljbnmmaaDoorD4
import Derived.Test.YtjabgfnljbnmmaaDoorE8
import Derived.Test.YtjabgfnljbnmmaaDoorE15
set_option linter.unusedSimpArgs false
set_option linter.unusedVariables false
set_option maxRecDepth 20000
set_option maxHeartbeats 40000000
namespace Go.Proofs.YtjabgfnljbnmmaaDoor
open Go.Ax
attribute [-simp] List.map_set
def awSc : List OpS := [⟨0, [97], [], 0, 0⟩, ⟨0, [102], [0], 0, 0⟩, ⟨0, [102], [1], 0, 0⟩, ⟨0, [102], [2], 0, 0⟩, ⟨1, [], [], 2, 0⟩, ⟨1, [], [], 3, 0⟩]
theorem awake_walk {B : Heap} {G : GS} {N : List Nd} {E : List (Nat × Nat)} {l : List Nat} (hN : N.length = 4) (hl : l.length = 2)
  (hP : Ok B 12 [.slice 5 (awSc.map opV)] [] (.tup [.ref (.sub 0 0) 0, wV2 N E, .bool true]) [] (gNew 0 G))
  (hS : Ok B 21 [gR, nV 0, nV 1] (gObs G) (.tup [.bool true, nV 0]) (gObs G) []) (hX : Ok B 13 [gR, nV 1, nV 0] (gObs G) (.tup [.slice 1 (l.map nV), nV 0]) (gObs G) []) :
  Ok B 11 [] [] (.bool true) [] [] := by
 refine k11 ?_
 have hp : True := trivial
 repeat' first | refine w0 ?_ | refine w1 ?_ | ((first | refine w2 ?_ | refine w3 ?_ | refine w4 ?_ | refine w5 ?_); intro K hK; simp (maxSteps := 4000000) +contextual [hp]; (try (refine finD rfl ?_; simp)); refine hK _ ?_; clear hK K) | ((first | refine w6 rfl ?_ ?_ | refine w7 rfl ?_ ?_) <;> (intro h; replace hp := And.intro h hp; clear h; try simp only [z0, z1, z2, z3, z4, z5, z6, z7, z8, z9, z10, z11, z12] at hp)) | refine w8 ?_ | refine w9 ?_ | refine w10 ?_ | refine w11 ?_ | refine w12 ?_ | refine w13 ?_ | refine w14 ?_ | refine w15 ?_ | refine w16 ?_ | refine w17 ?_ | refine w18 ?_ | refine w19 ?_ | refine w20 ?_ | refine w21 (by decide) ?_ | refine w22 ?_
 refine s_reg fun K hK => ?_
 simp (maxSteps := 4000000) +contextual [hp]
 refine callK (hP) (by simp) ?_
 simp (maxSteps := 4000000) +contextual [hp]
 refine hK _ ?_
 clear hK K
 repeat' first | refine w0 ?_ | refine w1 ?_ | ((first | refine w2 ?_ | refine w3 ?_ | refine w4 ?_ | refine w5 ?_); intro K hK; simp (maxSteps := 4000000) +contextual [hN, hp]; (try (refine finD rfl ?_; simp)); refine hK _ ?_; clear hK K) | ((first | refine w6 rfl ?_ ?_ | refine w7 rfl ?_ ?_) <;> (intro h; replace hp := And.intro h hp; clear h; try simp only [z0, z1, z2, z3, z4, z5, z6, z7, z8, z9, z10, z11, z12] at hp)) | refine w8 ?_ | refine w9 ?_ | refine w10 ?_ | refine w11 ?_ | refine w12 ?_ | refine w13 ?_ | refine w14 ?_ | refine w15 ?_ | refine w16 ?_ | refine w17 ?_ | refine w18 ?_ | refine w19 ?_ | refine w20 ?_ | refine w21 (by decide) ?_ | refine w22 ?_
 refine s_reg fun K hK => ?_
 simp (maxSteps := 4000000) +contextual [hN, hp]
 refine callK (hS) (by simp) ?_
 simp (maxSteps := 4000000) +contextual [hN, hp]
 refine hK _ ?_
 clear hK K
 repeat' first | refine w0 ?_ | refine w1 ?_ | ((first | refine w2 ?_ | refine w3 ?_ | refine w4 ?_ | refine w5 ?_); intro K hK; simp (maxSteps := 4000000) +contextual [hN, hp]; (try (refine finD rfl ?_; simp)); refine hK _ ?_; clear hK K) | ((first | refine w6 rfl ?_ ?_ | refine w7 rfl ?_ ?_) <;> (intro h; replace hp := And.intro h hp; clear h; try simp only [z0, z1, z2, z3, z4, z5, z6, z7, z8, z9, z10, z11, z12] at hp)) | refine w8 ?_ | refine w9 ?_ | refine w10 ?_ | refine w11 ?_ | refine w12 ?_ | refine w13 ?_ | refine w14 ?_ | refine w15 ?_ | refine w16 ?_ | refine w17 ?_ | refine w18 ?_ | refine w19 ?_ | refine w20 ?_ | refine w21 (by decide) ?_ | refine w22 ?_
 refine s_reg fun K hK => ?_
 simp (maxSteps := 4000000) +contextual [hN, hp]
 refine callK (hX) (by simp) ?_
 simp (maxSteps := 4000000) +contextual [hN, hp]
 refine hK _ ?_
 clear hK K
 repeat' first | refine w0 ?_ | refine w1 ?_ | ((first | refine w2 ?_ | refine w3 ?_ | refine w4 ?_ | refine w5 ?_); intro K hK; simp (maxSteps := 4000000) +contextual [hN, hl, hp]; (try (refine finD rfl ?_; simp)); refine hK _ ?_; clear hK K) | ((first | refine w6 rfl ?_ ?_ | refine w7 rfl ?_ ?_) <;> (intro h; replace hp := And.intro h hp; clear h; try simp only [z0, z1, z2, z3, z4, z5, z6, z7, z8, z9, z10, z11, z12] at hp)) | refine w8 ?_ | refine w9 ?_ | refine w10 ?_ | refine w11 ?_ | refine w12 ?_ | refine w13 ?_ | refine w14 ?_ | refine w15 ?_ | refine w16 ?_ | refine w17 ?_ | refine w18 ?_ | refine w19 ?_ | refine w20 ?_ | refine w21 (by decide) ?_ | refine w22 ?_
 all_goals simp [EndA]
end Go.Proofs.YtjabgfnljbnmmaaDoor
