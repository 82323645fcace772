/- A part of the proof of a law of this seat: no condition. -/
import Derived.Test.YtjabgfnljbnmmaaDoorEufL
import Derived.Test.YtjabgfnljbnmmaaDoorD1
import Derived.Test.YtjabgfnljbnmmaaDoorD4
import Derived.Test.YtjabgfnljbnmmaaDoorE8
import Derived.Test.YtjabgfnljbnmmaaDoorE10
import Derived.Test.YtjabgfnljbnmmaaDoorE19
set_option linter.unusedSimpArgs false
set_option linter.unusedVariables false
set_option maxRecDepth 20000
set_option maxHeartbeats 40000000
namespace Go.Proofs.YtjabgfnljbnmmaaDoor
open Go.Ax
attribute [-simp] List.map_set
/-- Equations said one after the other. -/
inductive ERun (B : Heap) (E : List (Nat × Nat)) : Nat → GS → GS → Prop
  | done {G} : ERun B E E.length G G
  | step {j G G1 G'} (h : j < E.length) (he : Ok B 25 [gR, nV (nth E j).1, nV (nth E j).2] (gObs G) (.tup [nV j, nV 0]) (gObs G1) []) (hr : ERun B E (j + 1) G1 G') : ERun B E j G G'
theorem back_law_bad {K} {sc : List OpS} {G : GS} {N : List Nd} {E : List (Nat × Nat)} {n : Int} (hA : Ok (bs K) 11 [] [] (.bool true) [] [])
    (hP : Ok (bs K) 12 [.slice 5 (sc.map opV)] [] (.tup [.ref (.sub 0 0) 0, wV2 N E, .bool true]) [] (gNew 0 G)) (hE : G.E = E) (h : n < 0 ∨ (E.length : Int) < n) :
    Ok (bs K) 8 [.slice 5 (sc.map opV), iV n] [] (.bool true) [] [] := by
  refine k8 ?_
  have hp : True := trivial
  have hB : Ok (bs K) 26 [gR, iV n] (gObs G) (nV 1) (gObs G) [] := back_bad (by rw [hE]; exact h)
  have hQ : Ok (bs K) 27 [gR] (gObs G) (nV E.length) (gObs G) [] := by rw [← hE]; exact eqs_ok
  repeat' first | refine w0 ?_ | refine w1 ?_ | ((first | refine w2 fun K hK => ?_ | refine w3 fun K hK => ?_ | refine w4 fun K hK => ?_ | refine w5 fun K hK => ?_); simp (maxSteps := 4000000) +contextual [hp]; (try (refine finD rfl ?_; simp)); refine hK _ ?_; clear hK K) | ((first | refine w6 rfl (fun h => ?_) (fun h => ?_) | refine w7 rfl (fun h => ?_) (fun h => ?_)) <;> (replace hp := And.intro h hp; clear h; try simp only [z0, z1, z2, z3, z4, z5, z6, z7, z8, z9, z10, z11, z12] at hp)) | refine w8 ?_ | refine w9 ?_ | refine w10 ?_ | refine w11 ?_ | refine w12 ?_ | refine w13 ?_ | refine w14 ?_ | refine w15 ?_ | refine w16 ?_ | refine w17 ?_ | refine w18 ?_ | refine w19 ?_ | refine w20 ?_ | refine w21 (by decide) ?_ | refine hleave .ret _ (by simp) ?_ | refine hleave (.exit _) _ (by simp) ?_ | refine w22 ?_
  refine s_reg fun K hK => ?_
  simp (maxSteps := 4000000) +contextual [hp]
  refine callK (hA) (by simp) ?_
  simp (maxSteps := 4000000) +contextual [hp]
  refine hK _ ?_
  clear hK K
  repeat' first | refine w0 ?_ | refine w1 ?_ | ((first | refine w2 fun K hK => ?_ | refine w3 fun K hK => ?_ | refine w4 fun K hK => ?_ | refine w5 fun K hK => ?_); simp (maxSteps := 4000000) +contextual [hp]; (try (refine finD rfl ?_; simp)); refine hK _ ?_; clear hK K) | ((first | refine w6 rfl (fun h => ?_) (fun h => ?_) | refine w7 rfl (fun h => ?_) (fun h => ?_)) <;> (replace hp := And.intro h hp; clear h; try simp only [z0, z1, z2, z3, z4, z5, z6, z7, z8, z9, z10, z11, z12] at hp)) | refine w8 ?_ | refine w9 ?_ | refine w10 ?_ | refine w11 ?_ | refine w12 ?_ | refine w13 ?_ | refine w14 ?_ | refine w15 ?_ | refine w16 ?_ | refine w17 ?_ | refine w18 ?_ | refine w19 ?_ | refine w20 ?_ | refine w21 (by decide) ?_ | refine hleave .ret _ (by simp) ?_ | refine hleave (.exit _) _ (by simp) ?_ | refine w22 ?_
  refine s_reg fun K hK => ?_
  simp (maxSteps := 4000000) +contextual [hp]
  refine callK (hP) (by simp) ?_
  simp (maxSteps := 4000000) +contextual [hp]
  refine hK _ ?_
  clear hK K
  by_cases h0 : n < 0
  · skip
    repeat' first | refine w0 ?_ | refine w1 ?_ | ((first | refine w2 fun K hK => ?_ | refine w3 fun K hK => ?_ | refine w4 fun K hK => ?_ | refine w5 fun K hK => ?_); simp (maxSteps := 4000000) +contextual [h0, hp]; (try (refine finD rfl ?_; simp)); refine hK _ ?_; clear hK K) | ((first | refine w6 rfl (fun h => ?_) (fun h => ?_) | refine w7 rfl (fun h => ?_) (fun h => ?_)) <;> (replace hp := And.intro h hp; clear h; try simp only [z0, z1, z2, z3, z4, z5, z6, z7, z8, z9, z10, z11, z12] at hp)) | refine w8 ?_ | refine w9 ?_ | refine w10 ?_ | refine w11 ?_ | refine w12 ?_ | refine w13 ?_ | refine w14 ?_ | refine w15 ?_ | refine w16 ?_ | refine w17 ?_ | refine w18 ?_ | refine w19 ?_ | refine w20 ?_ | refine w21 (by decide) ?_ | refine hleave .ret _ (by simp) ?_ | refine hleave (.exit _) _ (by simp) ?_ | refine w22 ?_
    refine s_regD fun K hK => ?_
    simp (maxSteps := 4000000) +contextual [h0, hp]
    refine callK (hB) (by simp) ?_
    simp (maxSteps := 4000000) +contextual [h0, hp]
    refine callK (hQ) (by simp) ?_
    simp (maxSteps := 4000000) +contextual [h0, hp]
    refine finD rfl ?_
    simp
    refine hK _ ?_
    clear hK K
    repeat' first | refine w0 ?_ | refine w1 ?_ | ((first | refine w2 fun K hK => ?_ | refine w3 fun K hK => ?_ | refine w4 fun K hK => ?_ | refine w5 fun K hK => ?_); simp (maxSteps := 4000000) +contextual [hp]; (try (refine finD rfl ?_; simp)); refine hK _ ?_; clear hK K) | ((first | refine w6 rfl (fun h => ?_) (fun h => ?_) | refine w7 rfl (fun h => ?_) (fun h => ?_)) <;> (replace hp := And.intro h hp; clear h; try simp only [z0, z1, z2, z3, z4, z5, z6, z7, z8, z9, z10, z11, z12] at hp)) | refine w8 ?_ | refine w9 ?_ | refine w10 ?_ | refine w11 ?_ | refine w12 ?_ | refine w13 ?_ | refine w14 ?_ | refine w15 ?_ | refine w16 ?_ | refine w17 ?_ | refine w18 ?_ | refine w19 ?_ | refine w20 ?_ | refine w21 (by decide) ?_ | refine hleave .ret _ (by simp) ?_ | refine hleave (.exit _) _ (by simp) ?_ | refine w22 ?_
    all_goals simp [EndA]
  · have h1 : (E.length : Int) < n := by omega
    repeat' first | refine w0 ?_ | refine w1 ?_ | ((first | refine w2 fun K hK => ?_ | refine w3 fun K hK => ?_ | refine w4 fun K hK => ?_ | refine w5 fun K hK => ?_); simp (maxSteps := 4000000) +contextual [h0, h1, hp]; (try (refine finD rfl ?_; simp)); refine hK _ ?_; clear hK K) | ((first | refine w6 rfl (fun h => ?_) (fun h => ?_) | refine w7 rfl (fun h => ?_) (fun h => ?_)) <;> (replace hp := And.intro h hp; clear h; try simp only [z0, z1, z2, z3, z4, z5, z6, z7, z8, z9, z10, z11, z12] at hp)) | refine w8 ?_ | refine w9 ?_ | refine w10 ?_ | refine w11 ?_ | refine w12 ?_ | refine w13 ?_ | refine w14 ?_ | refine w15 ?_ | refine w16 ?_ | refine w17 ?_ | refine w18 ?_ | refine w19 ?_ | refine w20 ?_ | refine w21 (by decide) ?_ | refine hleave .ret _ (by simp) ?_ | refine hleave (.exit _) _ (by simp) ?_ | refine w22 ?_
    refine s_regD fun K hK => ?_
    simp (maxSteps := 4000000) +contextual [h0, h1, hp]
    refine callK (hB) (by simp) ?_
    simp (maxSteps := 4000000) +contextual [h0, h1, hp]
    refine callK (hQ) (by simp) ?_
    simp (maxSteps := 4000000) +contextual [h0, h1, hp]
    refine finD rfl ?_
    simp
    refine hK _ ?_
    clear hK K
    repeat' first | refine w0 ?_ | refine w1 ?_ | ((first | refine w2 fun K hK => ?_ | refine w3 fun K hK => ?_ | refine w4 fun K hK => ?_ | refine w5 fun K hK => ?_); simp (maxSteps := 4000000) +contextual [hp]; (try (refine finD rfl ?_; simp)); refine hK _ ?_; clear hK K) | ((first | refine w6 rfl (fun h => ?_) (fun h => ?_) | refine w7 rfl (fun h => ?_) (fun h => ?_)) <;> (replace hp := And.intro h hp; clear h; try simp only [z0, z1, z2, z3, z4, z5, z6, z7, z8, z9, z10, z11, z12] at hp)) | refine w8 ?_ | refine w9 ?_ | refine w10 ?_ | refine w11 ?_ | refine w12 ?_ | refine w13 ?_ | refine w14 ?_ | refine w15 ?_ | refine w16 ?_ | refine w17 ?_ | refine w18 ?_ | refine w19 ?_ | refine w20 ?_ | refine w21 (by decide) ?_ | refine hleave .ret _ (by simp) ?_ | refine hleave (.exit _) _ (by simp) ?_ | refine w22 ?_
    all_goals simp [EndA]
theorem back_law {B : Heap} {sc : List OpS} {G G1 G2 : GS} {N : List Nd} {E : List (Nat × Nat)} {c : List Nat} {n : Nat} (hA : Ok B 11 [] [] (.bool true) [] [])
    (hP : Ok B 12 [.slice 5 (sc.map opV)] [] (.tup [.ref (.sub 0 0) 0, wV2 N E, .bool true]) [] (gNew 0 G)) (hn : n ≤ E.length) (hcl : c.length = N.length) (hNl : N.length ≤ 1000) (hEl : E.length ≤ 1000)
    (hB : Ok B 26 [gR, iV n] (gObs G) (nV 0) (gObs G1) []) (hQ : Ok B 27 [gR] (gObs G1) (nV n) (gObs G1) []) (hL : Ok B 20 [gR] (gObs G1) (nV N.length) (gObs G1) []) (hR : ERun B E n G1 G2)
    (hF : ∀ a, a < N.length → Ok B 22 [gR, nV a] (gObs G) (.tup [nV (nth c a), nV 0]) (gObs G) []) (hF2 : ∀ a, a < N.length → Ok B 22 [gR, nV a] (gObs G2) (.tup [nV (nth c a), nV 0]) (gObs G2) []) :
    Ok B 8 [.slice 5 (sc.map opV), nV n] [] (.bool true) [] [] := by
  refine k8 ?_
  have hp : True := trivial
  have hn0 : ¬ (n : Int) < 0 := by omega
  have hn1 : ¬ (E.length : Int) < (n : Int) := by omega
  have hn2 : ¬ E.length < n := by omega
  repeat' first | refine w0 ?_ | refine w1 ?_ | ((first | refine w2 fun K hK => ?_ | refine w3 fun K hK => ?_ | refine w4 fun K hK => ?_ | refine w5 fun K hK => ?_); simp (maxSteps := 4000000) +contextual [hp]; (try (refine finD rfl ?_; simp)); refine hK _ ?_; clear hK K) | ((first | refine w6 rfl (fun h => ?_) (fun h => ?_) | refine w7 rfl (fun h => ?_) (fun h => ?_)) <;> (replace hp := And.intro h hp; clear h; try simp only [z0, z1, z2, z3, z4, z5, z6, z7, z8, z9, z10, z11, z12] at hp)) | refine w8 ?_ | refine w9 ?_ | refine w10 ?_ | refine w11 ?_ | refine w12 ?_ | refine w13 ?_ | refine w14 ?_ | refine w15 ?_ | refine w16 ?_ | refine w17 ?_ | refine w18 ?_ | refine w19 ?_ | refine w20 ?_ | refine w21 (by decide) ?_ | refine hleave .ret _ (by simp) ?_ | refine hleave (.exit _) _ (by simp) ?_ | refine w22 ?_
  refine s_reg fun K hK => ?_
  simp (maxSteps := 4000000) +contextual [hp]
  refine callK (hA) (by simp) ?_
  simp (maxSteps := 4000000) +contextual [hp]
  refine hK _ ?_
  clear hK K
  repeat' first | refine w0 ?_ | refine w1 ?_ | ((first | refine w2 fun K hK => ?_ | refine w3 fun K hK => ?_ | refine w4 fun K hK => ?_ | refine w5 fun K hK => ?_); simp (maxSteps := 4000000) +contextual [hp]; (try (refine finD rfl ?_; simp)); refine hK _ ?_; clear hK K) | ((first | refine w6 rfl (fun h => ?_) (fun h => ?_) | refine w7 rfl (fun h => ?_) (fun h => ?_)) <;> (replace hp := And.intro h hp; clear h; try simp only [z0, z1, z2, z3, z4, z5, z6, z7, z8, z9, z10, z11, z12] at hp)) | refine w8 ?_ | refine w9 ?_ | refine w10 ?_ | refine w11 ?_ | refine w12 ?_ | refine w13 ?_ | refine w14 ?_ | refine w15 ?_ | refine w16 ?_ | refine w17 ?_ | refine w18 ?_ | refine w19 ?_ | refine w20 ?_ | refine w21 (by decide) ?_ | refine hleave .ret _ (by simp) ?_ | refine hleave (.exit _) _ (by simp) ?_ | refine w22 ?_
  refine s_reg fun K hK => ?_
  simp (maxSteps := 4000000) +contextual [hp]
  refine callK (hP) (by simp) ?_
  simp (maxSteps := 4000000) +contextual [hp]
  refine hK _ ?_
  clear hK K
  repeat' first | refine w0 ?_ | refine w1 ?_ | ((first | refine w2 fun K hK => ?_ | refine w3 fun K hK => ?_ | refine w4 fun K hK => ?_ | refine w5 fun K hK => ?_); simp (maxSteps := 4000000) +contextual [hn0, hn1, hn2, hp]; (try (refine finD rfl ?_; simp)); refine hK _ ?_; clear hK K) | ((first | refine w6 rfl (fun h => ?_) (fun h => ?_) | refine w7 rfl (fun h => ?_) (fun h => ?_)) <;> (replace hp := And.intro h hp; clear h; try simp only [z0, z1, z2, z3, z4, z5, z6, z7, z8, z9, z10, z11, z12] at hp)) | refine w8 ?_ | refine w9 ?_ | refine w10 ?_ | refine w11 ?_ | refine w12 ?_ | refine w13 ?_ | refine w14 ?_ | refine w15 ?_ | refine w16 ?_ | refine w17 ?_ | refine w18 ?_ | refine w19 ?_ | refine w20 ?_ | refine w21 (by decide) ?_ | refine hleave .ret _ (by simp) ?_ | refine hleave (.exit _) _ (by simp) ?_ | refine w22 ?_
  refine c_loopI (fun (j : Nat) => (⟨[(1, nV n), (5, .ref (.sub 22 0) 0), (6, .ref (.loc 6) 0), (8, .own 1 ((c.take j).map nV)), (9, nV j)], gSub 22 G ++ [(.loc 6, .cells false [.slice 2 (N.map ndV), .slice 2 (E.map prV)])]⟩ : St))
    (fun j => j ≤ N.length) (fun j => N.length - j) 0 (by simp) (Nat.zero_le _) (fun j K' hj hnext hleave => ?_)
  by_cases hjl : j < N.length
  · have hw : IntKind.wrap .i64 ((j : Int) + 1) = ((j + 1 : Nat) : Int) := wrapN (by omega) (by omega)
    have hf := hF j hjl
    have hst : c.take (j + 1) = c.take j ++ [nth c j] := take_nth (by omega)
    have hlen : (c.take j).length = j := by rw [List.length_take]; omega
    generalize c.take j = F at *
    have hb2 : (F.length + 1) * 8 ≤ 140737488355328 := by omega
    repeat' first | refine w0 ?_ | refine w1 ?_ | ((first | refine w2 fun K hK => ?_ | refine w3 fun K hK => ?_ | refine w4 fun K hK => ?_ | refine w5 fun K hK => ?_); simp (maxSteps := 4000000) +contextual [hjl, hp]; (try (refine finD rfl ?_; simp)); refine hK _ ?_; clear hK K) | ((first | refine w6 rfl (fun h => ?_) (fun h => ?_) | refine w7 rfl (fun h => ?_) (fun h => ?_)) <;> (replace hp := And.intro h hp; clear h; try simp only [z0, z1, z2, z3, z4, z5, z6, z7, z8, z9, z10, z11, z12] at hp)) | refine w8 ?_ | refine w9 ?_ | refine w10 ?_ | refine w11 ?_ | refine w12 ?_ | refine w13 ?_ | refine w14 ?_ | refine w15 ?_ | refine w16 ?_ | refine w17 ?_ | refine w18 ?_ | refine w19 ?_ | refine w20 ?_ | refine w21 (by decide) ?_ | refine hleave .ret _ (by simp) ?_ | refine hleave (.exit _) _ (by simp) ?_ | refine w22 ?_
    refine s_reg fun K hK => ?_
    simp (maxSteps := 4000000) +contextual [hjl, hp]
    refine callK (hf) (by simp) ?_
    simp (maxSteps := 4000000) +contextual [hjl, hp]
    refine hK _ ?_
    clear hK K
    repeat' first | refine w0 ?_ | refine w1 ?_ | ((first | refine w2 fun K hK => ?_ | refine w3 fun K hK => ?_ | refine w4 fun K hK => ?_ | refine w5 fun K hK => ?_); simp (maxSteps := 4000000) +contextual [hjl, hb2, hp]; (try (refine finD rfl ?_; simp)); refine hK _ ?_; clear hK K) | ((first | refine w6 rfl (fun h => ?_) (fun h => ?_) | refine w7 rfl (fun h => ?_) (fun h => ?_)) <;> (replace hp := And.intro h hp; clear h; try simp only [z0, z1, z2, z3, z4, z5, z6, z7, z8, z9, z10, z11, z12] at hp)) | refine w8 ?_ | refine w9 ?_ | refine w10 ?_ | refine w11 ?_ | refine w12 ?_ | refine w13 ?_ | refine w14 ?_ | refine w15 ?_ | refine w16 ?_ | refine w17 ?_ | refine w18 ?_ | refine w19 ?_ | refine w20 ?_ | refine w21 (by decide) ?_ | refine hleave .ret _ (by simp) ?_ | refine hleave (.exit _) _ (by simp) ?_ | refine w22 ?_
    all_goals refine hnext _ (j + 1) (by simp [hw, hst]) hjl (by omega)
  · have hje : j = N.length := by omega
    subst hje
    have hct : c.take N.length = c := by rw [← hcl, List.take_length]
    rw [hct]
    repeat' first | refine w0 ?_ | refine w1 ?_ | ((first | refine w2 fun K hK => ?_ | refine w3 fun K hK => ?_ | refine w4 fun K hK => ?_ | refine w5 fun K hK => ?_); simp (maxSteps := 4000000) +contextual [hp]; (try (refine finD rfl ?_; simp)); refine hK _ ?_; clear hK K) | ((first | refine w6 rfl (fun h => ?_) (fun h => ?_) | refine w7 rfl (fun h => ?_) (fun h => ?_)) <;> (replace hp := And.intro h hp; clear h; try simp only [z0, z1, z2, z3, z4, z5, z6, z7, z8, z9, z10, z11, z12] at hp)) | refine w8 ?_ | refine w9 ?_ | refine w10 ?_ | refine w11 ?_ | refine w12 ?_ | refine w13 ?_ | refine w14 ?_ | refine w15 ?_ | refine w16 ?_ | refine w17 ?_ | refine w18 ?_ | refine w19 ?_ | refine w20 ?_ | refine w21 (by decide) ?_ | refine hleave .ret _ (by simp) ?_ | refine hleave (.exit _) _ (by simp) ?_ | refine w22 ?_
    refine s_regD fun K hK => ?_
    simp (maxSteps := 4000000) +contextual [hp]
    refine callK (hB) (by simp) ?_
    simp (maxSteps := 4000000) +contextual [hp]
    refine callK (hQ) (by simp) ?_
    simp (maxSteps := 4000000) +contextual [hp]
    refine callK (hL) (by simp) ?_
    simp (maxSteps := 4000000) +contextual [hp]
    refine finD rfl ?_
    simp
    refine hK _ ?_
    clear hK K
    repeat' first | refine w0 ?_ | refine w1 ?_ | ((first | refine w2 fun K hK => ?_ | refine w3 fun K hK => ?_ | refine w4 fun K hK => ?_ | refine w5 fun K hK => ?_); simp (maxSteps := 4000000) +contextual [hp]; (try (refine finD rfl ?_; simp)); refine hK _ ?_; clear hK K) | ((first | refine w6 rfl (fun h => ?_) (fun h => ?_) | refine w7 rfl (fun h => ?_) (fun h => ?_)) <;> (replace hp := And.intro h hp; clear h; try simp only [z0, z1, z2, z3, z4, z5, z6, z7, z8, z9, z10, z11, z12] at hp)) | refine w8 ?_ | refine w9 ?_ | refine w10 ?_ | refine w11 ?_ | refine w12 ?_ | refine w13 ?_ | refine w14 ?_ | refine w15 ?_ | refine w16 ?_ | refine w17 ?_ | refine w18 ?_ | refine w19 ?_ | refine w20 ?_ | refine w21 (by decide) ?_ | refine hleave .ret _ (by simp) ?_ | refine hleave (.exit _) _ (by simp) ?_ | refine w22 ?_
    refine c_loopI (fun (q : Nat × GS) => (⟨[(5, .ref (.sub 22 0) 0), (6, .ref (.loc 6) 0), (8, .own 1 (c.map nV)), (12, nV q.1)], gSub 22 q.2 ++ [(.loc 6, .cells false [.slice 2 (N.map ndV), .slice 2 (E.map prV)])]⟩ : St))
      (fun q => ERun B E q.1 q.2 G2) (fun q => E.length - q.1) (n, G1) (by simp) hR (fun q K2 hq hnext2 hleave => ?_)
    obtain ⟨j, G3⟩ := q
    simp only at hq hnext2 ⊢
    cases hq with
    | done =>
      repeat' first | refine w0 ?_ | refine w1 ?_ | ((first | refine w2 fun K hK => ?_ | refine w3 fun K hK => ?_ | refine w4 fun K hK => ?_ | refine w5 fun K hK => ?_); simp (maxSteps := 4000000) +contextual [hp]; (try (refine finD rfl ?_; simp)); refine hK _ ?_; clear hK K) | ((first | refine w6 rfl (fun h => ?_) (fun h => ?_) | refine w7 rfl (fun h => ?_) (fun h => ?_)) <;> (replace hp := And.intro h hp; clear h; try simp only [z0, z1, z2, z3, z4, z5, z6, z7, z8, z9, z10, z11, z12] at hp)) | refine w8 ?_ | refine w9 ?_ | refine w10 ?_ | refine w11 ?_ | refine w12 ?_ | refine w13 ?_ | refine w14 ?_ | refine w15 ?_ | refine w16 ?_ | refine w17 ?_ | refine w18 ?_ | refine w19 ?_ | refine w20 ?_ | refine w21 (by decide) ?_ | refine hleave .ret _ (by simp) ?_ | refine hleave (.exit _) _ (by simp) ?_ | refine w22 ?_
      refine c_loopI (fun (j : Nat) => (⟨[(5, .ref (.sub 22 0) 0), (6, .ref (.loc 6) 0), (8, .own 1 (c.map nV)), (15, nV j)], gSub 22 G2 ++ [(.loc 6, .cells false [.slice 2 (N.map ndV), .slice 2 (E.map prV)])]⟩ : St))
        (fun j => j ≤ N.length) (fun j => N.length - j) 0 (by simp) (Nat.zero_le _) (fun j K3 hj hnext3 hleave => ?_)
      by_cases hjl : j < N.length
      · have hw : IntKind.wrap .i64 ((j : Int) + 1) = ((j + 1 : Nat) : Int) := wrapN (by omega) (by omega)
        have hf := hF2 j hjl
        have hjc : j < c.length := by omega
        repeat' first | refine w0 ?_ | refine w1 ?_ | ((first | refine w2 fun K hK => ?_ | refine w3 fun K hK => ?_ | refine w4 fun K hK => ?_ | refine w5 fun K hK => ?_); simp (maxSteps := 4000000) +contextual [hjl, hp]; (try (refine finD rfl ?_; simp)); refine hK _ ?_; clear hK K) | ((first | refine w6 rfl (fun h => ?_) (fun h => ?_) | refine w7 rfl (fun h => ?_) (fun h => ?_)) <;> (replace hp := And.intro h hp; clear h; try simp only [z0, z1, z2, z3, z4, z5, z6, z7, z8, z9, z10, z11, z12] at hp)) | refine w8 ?_ | refine w9 ?_ | refine w10 ?_ | refine w11 ?_ | refine w12 ?_ | refine w13 ?_ | refine w14 ?_ | refine w15 ?_ | refine w16 ?_ | refine w17 ?_ | refine w18 ?_ | refine w19 ?_ | refine w20 ?_ | refine w21 (by decide) ?_ | refine hleave .ret _ (by simp) ?_ | refine hleave (.exit _) _ (by simp) ?_ | refine w22 ?_
        refine s_reg fun K hK => ?_
        simp (maxSteps := 4000000) +contextual [hjl, hp]
        refine callK (hf) (by simp) ?_
        simp (maxSteps := 4000000) +contextual [hjl, hp]
        refine hK _ ?_
        clear hK K
        repeat' first | refine w0 ?_ | refine w1 ?_ | ((first | refine w2 fun K hK => ?_ | refine w3 fun K hK => ?_ | refine w4 fun K hK => ?_ | refine w5 fun K hK => ?_); simp (maxSteps := 4000000) +contextual [hjl, hjc, hp]; (try (refine finD rfl ?_; simp)); refine hK _ ?_; clear hK K) | ((first | refine w6 rfl (fun h => ?_) (fun h => ?_) | refine w7 rfl (fun h => ?_) (fun h => ?_)) <;> (replace hp := And.intro h hp; clear h; try simp only [z0, z1, z2, z3, z4, z5, z6, z7, z8, z9, z10, z11, z12] at hp)) | refine w8 ?_ | refine w9 ?_ | refine w10 ?_ | refine w11 ?_ | refine w12 ?_ | refine w13 ?_ | refine w14 ?_ | refine w15 ?_ | refine w16 ?_ | refine w17 ?_ | refine w18 ?_ | refine w19 ?_ | refine w20 ?_ | refine w21 (by decide) ?_ | refine hleave .ret _ (by simp) ?_ | refine hleave (.exit _) _ (by simp) ?_ | refine w22 ?_
        all_goals refine hnext3 _ (j + 1) (by simp [hw]) hjl (by omega)
      · have hje : j = N.length := by omega
        subst hje
        repeat' first | refine w0 ?_ | refine w1 ?_ | ((first | refine w2 fun K hK => ?_ | refine w3 fun K hK => ?_ | refine w4 fun K hK => ?_ | refine w5 fun K hK => ?_); simp (maxSteps := 4000000) +contextual [hp]; (try (refine finD rfl ?_; simp)); refine hK _ ?_; clear hK K) | ((first | refine w6 rfl (fun h => ?_) (fun h => ?_) | refine w7 rfl (fun h => ?_) (fun h => ?_)) <;> (replace hp := And.intro h hp; clear h; try simp only [z0, z1, z2, z3, z4, z5, z6, z7, z8, z9, z10, z11, z12] at hp)) | refine w8 ?_ | refine w9 ?_ | refine w10 ?_ | refine w11 ?_ | refine w12 ?_ | refine w13 ?_ | refine w14 ?_ | refine w15 ?_ | refine w16 ?_ | refine w17 ?_ | refine w18 ?_ | refine w19 ?_ | refine w20 ?_ | refine w21 (by decide) ?_ | refine hleave .ret _ (by simp) ?_ | refine hleave (.exit _) _ (by simp) ?_ | refine w22 ?_
        all_goals simp [EndA]
    | step hjl he hr =>
      have hw : IntKind.wrap .i64 ((j : Int) + 1) = ((j + 1 : Nat) : Int) := wrapN (by omega) (by omega)
      repeat' first | refine w0 ?_ | refine w1 ?_ | ((first | refine w2 fun K hK => ?_ | refine w3 fun K hK => ?_ | refine w4 fun K hK => ?_ | refine w5 fun K hK => ?_); simp (maxSteps := 4000000) +contextual [hjl, hp]; (try (refine finD rfl ?_; simp)); refine hK _ ?_; clear hK K) | ((first | refine w6 rfl (fun h => ?_) (fun h => ?_) | refine w7 rfl (fun h => ?_) (fun h => ?_)) <;> (replace hp := And.intro h hp; clear h; try simp only [z0, z1, z2, z3, z4, z5, z6, z7, z8, z9, z10, z11, z12] at hp)) | refine w8 ?_ | refine w9 ?_ | refine w10 ?_ | refine w11 ?_ | refine w12 ?_ | refine w13 ?_ | refine w14 ?_ | refine w15 ?_ | refine w16 ?_ | refine w17 ?_ | refine w18 ?_ | refine w19 ?_ | refine w20 ?_ | refine w21 (by decide) ?_ | refine hleave .ret _ (by simp) ?_ | refine hleave (.exit _) _ (by simp) ?_ | refine w22 ?_
      refine s_regD fun K hK => ?_
      simp (maxSteps := 4000000) +contextual [hjl, hp]
      refine callK (he) (by simp) ?_
      simp (maxSteps := 4000000) +contextual [hjl, hp]
      refine finD rfl ?_
      simp
      refine hK _ ?_
      clear hK K
      repeat' first | refine w0 ?_ | refine w1 ?_ | ((first | refine w2 fun K hK => ?_ | refine w3 fun K hK => ?_ | refine w4 fun K hK => ?_ | refine w5 fun K hK => ?_); simp (maxSteps := 4000000) +contextual [hjl, hp]; (try (refine finD rfl ?_; simp)); refine hK _ ?_; clear hK K) | ((first | refine w6 rfl (fun h => ?_) (fun h => ?_) | refine w7 rfl (fun h => ?_) (fun h => ?_)) <;> (replace hp := And.intro h hp; clear h; try simp only [z0, z1, z2, z3, z4, z5, z6, z7, z8, z9, z10, z11, z12] at hp)) | refine w8 ?_ | refine w9 ?_ | refine w10 ?_ | refine w11 ?_ | refine w12 ?_ | refine w13 ?_ | refine w14 ?_ | refine w15 ?_ | refine w16 ?_ | refine w17 ?_ | refine w18 ?_ | refine w19 ?_ | refine w20 ?_ | refine w21 (by decide) ?_ | refine hleave .ret _ (by simp) ?_ | refine hleave (.exit _) _ (by simp) ?_ | refine w22 ?_
      all_goals refine hnext2 _ (j + 1, _) (by simp [hw]) hr (by simp; omega)
end Go.Proofs.YtjabgfnljbnmmaaDoor
