/- A part of the proof of a law of this seat: no condition. -/
import Derived.Test.YtjabgfnljbnmmaaDoorEL
import Derived.Test.YtjabgfnljbnmmaaDoorEufD
set_option linter.unusedSimpArgs false
set_option linter.unusedVariables false
set_option maxRecDepth 20000
set_option maxHeartbeats 40000000
namespace Go.Proofs.YtjabgfnljbnmmaaDoor
open Go.Ax
attribute [-simp] List.map_set
/-- The objects of a graph that a call brings. -/
abbrev gNew (d : Nat) (G : GS) : List Ob :=
 [.cells false [.own 2 (G.N.map ndV), .mp (.sub d 1), .own 2 (G.E.map prV), .sl 1 (.sub d 2) G.P.length, .sl 1 (.sub d 3) G.C.length, .sl 1 (.sub d 4) G.U.length, .mp (.sub d 5), .sl 3 (.sub d 6) G.D.length],
  .map G.bw (G.W.map kvV), .cells true (G.P.map nV), .cells true (G.C.map rowV), .cells true (G.U.map rowV), .map G.bs (G.S.map kvV), .cells true (G.D.flatMap edC)]
abbrev gs0 : GS := ⟨[], 0, [], [], [], [], [], 0, [], []⟩
@[simp] theorem range7 : List.range 7 = [0, 1, 2, 3, 4, 5, 6] := rfl
theorem new_ok {B : Heap} : Ok B 24 [] [] (.ref (.sub 0 0) 0) [] (gNew 0 gs0) := by
 refine k24 ?_
 have hp : True := trivial
 repeat' first | refine w0 ?_ | refine w1 ?_ | ((first | refine w2 ?_ | refine w3 ?_ | refine w4 ?_ | refine w5 ?_); intro K hK; simp (maxSteps := 4000000) +contextual [hp]; (try (refine finD rfl ?_; simp)); refine hK _ ?_; clear hK K) | ((first | refine w6 rfl ?_ ?_ | refine w7 rfl ?_ ?_) <;> (intro h; replace hp := And.intro h hp; clear h; try simp only [z0, z1, z2, z3, z4, z5, z6, z7, z8, z9, z10, z11, z12] at hp)) | refine w8 ?_ | refine w9 ?_ | refine w10 ?_ | refine w11 ?_ | refine w12 ?_ | refine w13 ?_ | refine w14 ?_ | refine w15 ?_ | refine w16 ?_ | refine w17 ?_ | refine w18 ?_ | refine w19 ?_ | refine w20 ?_ | refine w21 (by decide) ?_ | refine w22 ?_
 all_goals simp [EndA]
end Go.Proofs.YtjabgfnljbnmmaaDoor
