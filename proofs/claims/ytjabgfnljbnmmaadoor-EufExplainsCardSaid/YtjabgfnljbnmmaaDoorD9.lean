/- A part of the proof of a law of this seat: no condition. -/
import Derived.Test.YtjabgfnljbnmmaaDoorEufL3
import Derived.Test.YtjabgfnljbnmmaaDoorD4
import Derived.Test.YtjabgfnljbnmmaaDoorE8
import Derived.Test.YtjabgfnljbnmmaaDoorD7
import Derived.Test.YtjabgfnljbnmmaaDoorE15
set_option linter.unusedSimpArgs false
set_option linter.unusedVariables false
set_option maxRecDepth 20000
set_option maxHeartbeats 40000000
namespace Go.Proofs.YtjabgfnljbnmmaaDoor
open Go.Ax
attribute [-simp] List.map_set
/-- 'EufExplains', up to what is told. -/
theorem explains_bad {B : Heap} {sc : List OpS} {G : GS} {N : List Nd} {E : List (Nat × Nat)} {a b : Int} (hA : Ok B 11 [] [] (.bool true) [] [])
    (hP : Ok B 12 [.slice 5 (sc.map opV)] [] (.tup [.ref (.sub 0 0) 0, wV2 N E, .bool true]) [] (gNew 0 G)) (hN : G.N = N) (h : ¬ (isN G a ∧ isN G b)) :
    Ok B 3 [.slice 5 (sc.map opV), iV a, iV b] [] (.bool true) [] [] := by
  refine k3 ?_
  have hp : True := trivial
  have hX : Ok B 13 [gR, iV a, iV b] (gObs G) (.tup [.slice 1 [], nV 50]) (gObs G) [] := expl_bad h
  repeat' first | refine w0 ?_ | refine w1 ?_ | ((first | refine w2 fun K hK => ?_ | refine w3 fun K hK => ?_ | refine w4 fun K hK => ?_ | refine w5 fun K hK => ?_); simp (maxSteps := 4000000) +contextual [hp]; (try (refine finD rfl ?_; simp)); refine hK _ ?_; clear hK K) | ((first | refine w6 rfl (fun h => ?_) (fun h => ?_) | refine w7 rfl (fun h => ?_) (fun h => ?_)) <;> (replace hp := And.intro h hp; clear h; try simp only [z0, z1, z2, z3, z4, z5, z6, z7, z8, z9, z10, z11, z12] at hp)) | refine w8 ?_ | refine w9 ?_ | refine w10 ?_ | refine w11 ?_ | refine w12 ?_ | refine w13 ?_ | refine w14 ?_ | refine w15 ?_ | refine w16 ?_ | refine w17 ?_ | refine w18 ?_ | refine w19 ?_ | refine w20 ?_ | refine w21 (by decide) ?_ | refine hleave .ret _ (by simp) ?_ | refine hleave (.exit _) _ (by simp) ?_ | refine w22 ?_
  refine s_reg fun K hK => ?_
  simp (maxSteps := 4000000) +contextual [hp]
  refine callK (hA) (by simp) ?_
  simp (maxSteps := 4000000) +contextual [hp]
  refine hK _ ?_
  clear hK K
  repeat' first | refine w0 ?_ | refine w1 ?_ | ((first | refine w2 fun K hK => ?_ | refine w3 fun K hK => ?_ | refine w4 fun K hK => ?_ | refine w5 fun K hK => ?_); simp (maxSteps := 4000000) +contextual [hp]; (try (refine finD rfl ?_; simp)); refine hK _ ?_; clear hK K) | ((first | refine w6 rfl (fun h => ?_) (fun h => ?_) | refine w7 rfl (fun h => ?_) (fun h => ?_)) <;> (replace hp := And.intro h hp; clear h; try simp only [z0, z1, z2, z3, z4, z5, z6, z7, z8, z9, z10, z11, z12] at hp)) | refine w8 ?_ | refine w9 ?_ | refine w10 ?_ | refine w11 ?_ | refine w12 ?_ | refine w13 ?_ | refine w14 ?_ | refine w15 ?_ | refine w16 ?_ | refine w17 ?_ | refine w18 ?_ | refine w19 ?_ | refine w20 ?_ | refine w21 (by decide) ?_ | refine hleave .ret _ (by simp) ?_ | refine hleave (.exit _) _ (by simp) ?_ | refine w22 ?_
  refine s_reg fun K hK => ?_
  simp (maxSteps := 4000000) +contextual [hp]
  refine callK (hP) (by simp) ?_
  simp (maxSteps := 4000000) +contextual [hp]
  refine hK _ ?_
  clear hK K
  repeat' first | refine w0 ?_ | refine w1 ?_ | ((first | refine w2 fun K hK => ?_ | refine w3 fun K hK => ?_ | refine w4 fun K hK => ?_ | refine w5 fun K hK => ?_); simp (maxSteps := 4000000) +contextual [hp]; (try (refine finD rfl ?_; simp)); refine hK _ ?_; clear hK K) | ((first | refine w6 rfl (fun h => ?_) (fun h => ?_) | refine w7 rfl (fun h => ?_) (fun h => ?_)) <;> (replace hp := And.intro h hp; clear h; try simp only [z0, z1, z2, z3, z4, z5, z6, z7, z8, z9, z10, z11, z12] at hp)) | refine w8 ?_ | refine w9 ?_ | refine w10 ?_ | refine w11 ?_ | refine w12 ?_ | refine w13 ?_ | refine w14 ?_ | refine w15 ?_ | refine w16 ?_ | refine w17 ?_ | refine w18 ?_ | refine w19 ?_ | refine w20 ?_ | refine w21 (by decide) ?_ | refine hleave .ret _ (by simp) ?_ | refine hleave (.exit _) _ (by simp) ?_ | refine w22 ?_
  refine s_reg fun K hK => ?_
  simp (maxSteps := 4000000) +contextual [hp]
  refine callK (hX) (by simp) ?_
  simp (maxSteps := 4000000) +contextual [hp]
  refine hK _ ?_
  clear hK K
  repeat' first | refine w0 ?_ | refine w1 ?_ | ((first | refine w2 fun K hK => ?_ | refine w3 fun K hK => ?_ | refine w4 fun K hK => ?_ | refine w5 fun K hK => ?_); simp (maxSteps := 4000000) +contextual [hp]; (try (refine finD rfl ?_; simp)); refine hK _ ?_; clear hK K) | ((first | refine w6 rfl (fun h => ?_) (fun h => ?_) | refine w7 rfl (fun h => ?_) (fun h => ?_)) <;> (replace hp := And.intro h hp; clear h; try simp only [z0, z1, z2, z3, z4, z5, z6, z7, z8, z9, z10, z11, z12] at hp)) | refine w8 ?_ | refine w9 ?_ | refine w10 ?_ | refine w11 ?_ | refine w12 ?_ | refine w13 ?_ | refine w14 ?_ | refine w15 ?_ | refine w16 ?_ | refine w17 ?_ | refine w18 ?_ | refine w19 ?_ | refine w20 ?_ | refine w21 (by decide) ?_ | refine hleave .ret _ (by simp) ?_ | refine hleave (.exit _) _ (by simp) ?_ | refine w22 ?_
  by_cases ha : isN G a
  · have hb : ¬ isN G b := fun hb => h ⟨ha, hb⟩
    have h1 : Ok B 14 [wV2 N E, iV a] [] (.bool true) [] [] := is_ok (by simp only [true_iff]; rw [← hN]; exact ha)
    have h2 : Ok B 14 [wV2 N E, iV b] [] (.bool false) [] [] := is_ok (by
      have : ¬ (0 ≤ b ∧ b < (N.length : Int)) := by rw [← hN]; exact hb
      constructor
      · intro h; cases h
      · intro h; exact absurd h this)
    refine s_reg fun K hK => ?_
    simp (maxSteps := 4000000) +contextual [hp]
    refine callK (h1) (by simp) ?_
    simp (maxSteps := 4000000) +contextual [hp]
    refine callK (h2) (by simp) ?_
    simp (maxSteps := 4000000) +contextual [hp]
    refine hK _ ?_
    clear hK K
    repeat' first | refine w0 ?_ | refine w1 ?_ | ((first | refine w2 fun K hK => ?_ | refine w3 fun K hK => ?_ | refine w4 fun K hK => ?_ | refine w5 fun K hK => ?_); simp (maxSteps := 4000000) +contextual [hp]; (try (refine finD rfl ?_; simp)); refine hK _ ?_; clear hK K) | ((first | refine w6 rfl (fun h => ?_) (fun h => ?_) | refine w7 rfl (fun h => ?_) (fun h => ?_)) <;> (replace hp := And.intro h hp; clear h; try simp only [z0, z1, z2, z3, z4, z5, z6, z7, z8, z9, z10, z11, z12] at hp)) | refine w8 ?_ | refine w9 ?_ | refine w10 ?_ | refine w11 ?_ | refine w12 ?_ | refine w13 ?_ | refine w14 ?_ | refine w15 ?_ | refine w16 ?_ | refine w17 ?_ | refine w18 ?_ | refine w19 ?_ | refine w20 ?_ | refine w21 (by decide) ?_ | refine hleave .ret _ (by simp) ?_ | refine hleave (.exit _) _ (by simp) ?_ | refine w22 ?_
    all_goals simp [EndA]
  · have h1 : Ok B 14 [wV2 N E, iV a] [] (.bool false) [] [] := is_ok (by
      have : ¬ (0 ≤ a ∧ a < (N.length : Int)) := by rw [← hN]; exact ha
      constructor
      · intro h; cases h
      · intro h; exact absurd h this)
    refine s_reg fun K hK => ?_
    simp (maxSteps := 4000000) +contextual [hp]
    refine callK (h1) (by simp) ?_
    simp (maxSteps := 4000000) +contextual [hp]
    refine hK _ ?_
    clear hK K
    repeat' first | refine w0 ?_ | refine w1 ?_ | ((first | refine w2 fun K hK => ?_ | refine w3 fun K hK => ?_ | refine w4 fun K hK => ?_ | refine w5 fun K hK => ?_); simp (maxSteps := 4000000) +contextual [hp]; (try (refine finD rfl ?_; simp)); refine hK _ ?_; clear hK K) | ((first | refine w6 rfl (fun h => ?_) (fun h => ?_) | refine w7 rfl (fun h => ?_) (fun h => ?_)) <;> (replace hp := And.intro h hp; clear h; try simp only [z0, z1, z2, z3, z4, z5, z6, z7, z8, z9, z10, z11, z12] at hp)) | refine w8 ?_ | refine w9 ?_ | refine w10 ?_ | refine w11 ?_ | refine w12 ?_ | refine w13 ?_ | refine w14 ?_ | refine w15 ?_ | refine w16 ?_ | refine w17 ?_ | refine w18 ?_ | refine w19 ?_ | refine w20 ?_ | refine w21 (by decide) ?_ | refine hleave .ret _ (by simp) ?_ | refine hleave (.exit _) _ (by simp) ?_ | refine w22 ?_
    all_goals simp [EndA]
theorem explains_apart {B : Heap} {sc : List OpS} {G : GS} {N : List Nd} {E : List (Nat × Nat)} {c : List Nat} {a b : Nat} (hA : Ok B 11 [] [] (.bool true) [] [])
    (hP : Ok B 12 [.slice 5 (sc.map opV)] [] (.tup [.ref (.sub 0 0) 0, wV2 N E, .bool true]) [] (gNew 0 G)) (ha : a < N.length) (hb : b < N.length) (hcl : c.length = N.length)
    (hX : Ok B 13 [gR, nV a, nV b] (gObs G) (.tup [.slice 1 [], nV 51]) (gObs G) []) (hC : Ok B 15 [wV2 N E] [] (.sl 1 (.sub 0 0) N.length) [] [.cells true (c.map nV)]) (hne : nth c a ≠ nth c b) :
    Ok B 3 [.slice 5 (sc.map opV), nV a, nV b] [] (.bool true) [] [] := by
  refine k3 ?_
  have hp : True := trivial
  have h1 : Ok B 14 [wV2 N E, iV (a : Int)] [] (.bool true) [] [] := is_ok (by simp [ha])
  have h2 : Ok B 14 [wV2 N E, iV (b : Int)] [] (.bool true) [] [] := is_ok (by simp [hb])
  have hac : a < c.length := by omega
  have hbc : b < c.length := by omega
  have hne2 : ¬ ((nth c a : Nat) : Int) = ((nth c b : Nat) : Int) := by omega
  repeat' first | refine w0 ?_ | refine w1 ?_ | ((first | refine w2 fun K hK => ?_ | refine w3 fun K hK => ?_ | refine w4 fun K hK => ?_ | refine w5 fun K hK => ?_); simp (maxSteps := 4000000) +contextual [hp]; (try (refine finD rfl ?_; simp)); refine hK _ ?_; clear hK K) | ((first | refine w6 rfl (fun h => ?_) (fun h => ?_) | refine w7 rfl (fun h => ?_) (fun h => ?_)) <;> (replace hp := And.intro h hp; clear h; try simp only [z0, z1, z2, z3, z4, z5, z6, z7, z8, z9, z10, z11, z12] at hp)) | refine w8 ?_ | refine w9 ?_ | refine w10 ?_ | refine w11 ?_ | refine w12 ?_ | refine w13 ?_ | refine w14 ?_ | refine w15 ?_ | refine w16 ?_ | refine w17 ?_ | refine w18 ?_ | refine w19 ?_ | refine w20 ?_ | refine w21 (by decide) ?_ | refine hleave .ret _ (by simp) ?_ | refine hleave (.exit _) _ (by simp) ?_ | refine w22 ?_
  refine s_reg fun K hK => ?_
  simp (maxSteps := 4000000) +contextual [hp]
  refine callK (hA) (by simp) ?_
  simp (maxSteps := 4000000) +contextual [hp]
  refine hK _ ?_
  clear hK K
  repeat' first | refine w0 ?_ | refine w1 ?_ | ((first | refine w2 fun K hK => ?_ | refine w3 fun K hK => ?_ | refine w4 fun K hK => ?_ | refine w5 fun K hK => ?_); simp (maxSteps := 4000000) +contextual [hp]; (try (refine finD rfl ?_; simp)); refine hK _ ?_; clear hK K) | ((first | refine w6 rfl (fun h => ?_) (fun h => ?_) | refine w7 rfl (fun h => ?_) (fun h => ?_)) <;> (replace hp := And.intro h hp; clear h; try simp only [z0, z1, z2, z3, z4, z5, z6, z7, z8, z9, z10, z11, z12] at hp)) | refine w8 ?_ | refine w9 ?_ | refine w10 ?_ | refine w11 ?_ | refine w12 ?_ | refine w13 ?_ | refine w14 ?_ | refine w15 ?_ | refine w16 ?_ | refine w17 ?_ | refine w18 ?_ | refine w19 ?_ | refine w20 ?_ | refine w21 (by decide) ?_ | refine hleave .ret _ (by simp) ?_ | refine hleave (.exit _) _ (by simp) ?_ | refine w22 ?_
  refine s_reg fun K hK => ?_
  simp (maxSteps := 4000000) +contextual [hp]
  refine callK (hP) (by simp) ?_
  simp (maxSteps := 4000000) +contextual [hp]
  refine hK _ ?_
  clear hK K
  repeat' first | refine w0 ?_ | refine w1 ?_ | ((first | refine w2 fun K hK => ?_ | refine w3 fun K hK => ?_ | refine w4 fun K hK => ?_ | refine w5 fun K hK => ?_); simp (maxSteps := 4000000) +contextual [hp]; (try (refine finD rfl ?_; simp)); refine hK _ ?_; clear hK K) | ((first | refine w6 rfl (fun h => ?_) (fun h => ?_) | refine w7 rfl (fun h => ?_) (fun h => ?_)) <;> (replace hp := And.intro h hp; clear h; try simp only [z0, z1, z2, z3, z4, z5, z6, z7, z8, z9, z10, z11, z12] at hp)) | refine w8 ?_ | refine w9 ?_ | refine w10 ?_ | refine w11 ?_ | refine w12 ?_ | refine w13 ?_ | refine w14 ?_ | refine w15 ?_ | refine w16 ?_ | refine w17 ?_ | refine w18 ?_ | refine w19 ?_ | refine w20 ?_ | refine w21 (by decide) ?_ | refine hleave .ret _ (by simp) ?_ | refine hleave (.exit _) _ (by simp) ?_ | refine w22 ?_
  refine s_reg fun K hK => ?_
  simp (maxSteps := 4000000) +contextual [hp]
  refine callK (hX) (by simp) ?_
  simp (maxSteps := 4000000) +contextual [hp]
  refine hK _ ?_
  clear hK K
  repeat' first | refine w0 ?_ | refine w1 ?_ | ((first | refine w2 fun K hK => ?_ | refine w3 fun K hK => ?_ | refine w4 fun K hK => ?_ | refine w5 fun K hK => ?_); simp (maxSteps := 4000000) +contextual [hp]; (try (refine finD rfl ?_; simp)); refine hK _ ?_; clear hK K) | ((first | refine w6 rfl (fun h => ?_) (fun h => ?_) | refine w7 rfl (fun h => ?_) (fun h => ?_)) <;> (replace hp := And.intro h hp; clear h; try simp only [z0, z1, z2, z3, z4, z5, z6, z7, z8, z9, z10, z11, z12] at hp)) | refine w8 ?_ | refine w9 ?_ | refine w10 ?_ | refine w11 ?_ | refine w12 ?_ | refine w13 ?_ | refine w14 ?_ | refine w15 ?_ | refine w16 ?_ | refine w17 ?_ | refine w18 ?_ | refine w19 ?_ | refine w20 ?_ | refine w21 (by decide) ?_ | refine hleave .ret _ (by simp) ?_ | refine hleave (.exit _) _ (by simp) ?_ | refine w22 ?_
  refine s_reg fun K hK => ?_
  simp (maxSteps := 4000000) +contextual [hp]
  refine callK (h1) (by simp) ?_
  simp (maxSteps := 4000000) +contextual [hp]
  refine callK (h2) (by simp) ?_
  simp (maxSteps := 4000000) +contextual [hp]
  refine hK _ ?_
  clear hK K
  repeat' first | refine w0 ?_ | refine w1 ?_ | ((first | refine w2 fun K hK => ?_ | refine w3 fun K hK => ?_ | refine w4 fun K hK => ?_ | refine w5 fun K hK => ?_); simp (maxSteps := 4000000) +contextual [hp]; (try (refine finD rfl ?_; simp)); refine hK _ ?_; clear hK K) | ((first | refine w6 rfl (fun h => ?_) (fun h => ?_) | refine w7 rfl (fun h => ?_) (fun h => ?_)) <;> (replace hp := And.intro h hp; clear h; try simp only [z0, z1, z2, z3, z4, z5, z6, z7, z8, z9, z10, z11, z12] at hp)) | refine w8 ?_ | refine w9 ?_ | refine w10 ?_ | refine w11 ?_ | refine w12 ?_ | refine w13 ?_ | refine w14 ?_ | refine w15 ?_ | refine w16 ?_ | refine w17 ?_ | refine w18 ?_ | refine w19 ?_ | refine w20 ?_ | refine w21 (by decide) ?_ | refine hleave .ret _ (by simp) ?_ | refine hleave (.exit _) _ (by simp) ?_ | refine w22 ?_
  refine s_reg fun K hK => ?_
  simp (maxSteps := 4000000) +contextual [hp]
  refine callK (hC) (by simp) ?_
  simp (maxSteps := 4000000) +contextual [hp]
  refine hK _ ?_
  clear hK K
  repeat' first | refine w0 ?_ | refine w1 ?_ | ((first | refine w2 fun K hK => ?_ | refine w3 fun K hK => ?_ | refine w4 fun K hK => ?_ | refine w5 fun K hK => ?_); simp (maxSteps := 4000000) +contextual [ha, hb, hac, hbc, hne, hne2, hcl, hp]; (try (refine finD rfl ?_; simp)); refine hK _ ?_; clear hK K) | ((first | refine w6 rfl (fun h => ?_) (fun h => ?_) | refine w7 rfl (fun h => ?_) (fun h => ?_)) <;> (replace hp := And.intro h hp; clear h; try simp only [z0, z1, z2, z3, z4, z5, z6, z7, z8, z9, z10, z11, z12] at hp)) | refine w8 ?_ | refine w9 ?_ | refine w10 ?_ | refine w11 ?_ | refine w12 ?_ | refine w13 ?_ | refine w14 ?_ | refine w15 ?_ | refine w16 ?_ | refine w17 ?_ | refine w18 ?_ | refine w19 ?_ | refine w20 ?_ | refine w21 (by decide) ?_ | refine hleave .ret _ (by simp) ?_ | refine hleave (.exit _) _ (by simp) ?_ | refine w22 ?_
  all_goals simp [EndA]
theorem explains_ok {B : Heap} {sc : List OpS} {G : GS} {N : List Nd} {E F : List (Nat × Nat)} {c d l : List Nat} {a b : Nat} (hA : Ok B 11 [] [] (.bool true) [] [])
    (hP : Ok B 12 [.slice 5 (sc.map opV)] [] (.tup [.ref (.sub 0 0) 0, wV2 N E, .bool true]) [] (gNew 0 G)) (ha : a < N.length) (hb : b < N.length) (hcl : c.length = N.length) (hdl : d.length = N.length)
    (hX : Ok B 13 [gR, nV a, nV b] (gObs G) (.tup [.slice 1 (l.map nV), nV 0]) (gObs G) []) (hC : Ok B 15 [wV2 N E] [] (.sl 1 (.sub 0 0) N.length) [] [.cells true (c.map nV)]) (he : nth c a = nth c b)
    (hl : ∀ i ∈ l, i < E.length) (hll : l.length ≤ 1000000) (hs : ∀ j, j + 1 < l.length → nth l j < nth l (j + 1)) (hO : Ok B 16 [wV2 N E, .slice 1 (l.map nV)] [] (wV2 N F) [] [])
    (hD : Ok B 15 [wV2 N F] [] (.sl 1 (.sub 0 0) N.length) [] [.cells true (d.map nV)]) (hd : nth d a = nth d b) :
    Ok B 3 [.slice 5 (sc.map opV), nV a, nV b] [] (.bool true) [] [] := by
  refine k3 ?_
  have hp : True := trivial
  have h1 : Ok B 14 [wV2 N E, iV (a : Int)] [] (.bool true) [] [] := is_ok (by simp [ha])
  have h2 : Ok B 14 [wV2 N E, iV (b : Int)] [] (.bool true) [] [] := is_ok (by simp [hb])
  have hac : a < c.length := by omega
  have hbc : b < c.length := by omega
  have had : a < d.length := by omega
  have hbd : b < d.length := by omega
  have he2 : ((nth c a : Nat) : Int) = ((nth c b : Nat) : Int) := by omega
  have hd2 : ((nth d a : Nat) : Int) = ((nth d b : Nat) : Int) := by omega
  repeat' first | refine w0 ?_ | refine w1 ?_ | ((first | refine w2 fun K hK => ?_ | refine w3 fun K hK => ?_ | refine w4 fun K hK => ?_ | refine w5 fun K hK => ?_); simp (maxSteps := 4000000) +contextual [hp]; (try (refine finD rfl ?_; simp)); refine hK _ ?_; clear hK K) | ((first | refine w6 rfl (fun h => ?_) (fun h => ?_) | refine w7 rfl (fun h => ?_) (fun h => ?_)) <;> (replace hp := And.intro h hp; clear h; try simp only [z0, z1, z2, z3, z4, z5, z6, z7, z8, z9, z10, z11, z12] at hp)) | refine w8 ?_ | refine w9 ?_ | refine w10 ?_ | refine w11 ?_ | refine w12 ?_ | refine w13 ?_ | refine w14 ?_ | refine w15 ?_ | refine w16 ?_ | refine w17 ?_ | refine w18 ?_ | refine w19 ?_ | refine w20 ?_ | refine w21 (by decide) ?_ | refine hleave .ret _ (by simp) ?_ | refine hleave (.exit _) _ (by simp) ?_ | refine w22 ?_
  refine s_reg fun K hK => ?_
  simp (maxSteps := 4000000) +contextual [hp]
  refine callK (hA) (by simp) ?_
  simp (maxSteps := 4000000) +contextual [hp]
  refine hK _ ?_
  clear hK K
  repeat' first | refine w0 ?_ | refine w1 ?_ | ((first | refine w2 fun K hK => ?_ | refine w3 fun K hK => ?_ | refine w4 fun K hK => ?_ | refine w5 fun K hK => ?_); simp (maxSteps := 4000000) +contextual [hp]; (try (refine finD rfl ?_; simp)); refine hK _ ?_; clear hK K) | ((first | refine w6 rfl (fun h => ?_) (fun h => ?_) | refine w7 rfl (fun h => ?_) (fun h => ?_)) <;> (replace hp := And.intro h hp; clear h; try simp only [z0, z1, z2, z3, z4, z5, z6, z7, z8, z9, z10, z11, z12] at hp)) | refine w8 ?_ | refine w9 ?_ | refine w10 ?_ | refine w11 ?_ | refine w12 ?_ | refine w13 ?_ | refine w14 ?_ | refine w15 ?_ | refine w16 ?_ | refine w17 ?_ | refine w18 ?_ | refine w19 ?_ | refine w20 ?_ | refine w21 (by decide) ?_ | refine hleave .ret _ (by simp) ?_ | refine hleave (.exit _) _ (by simp) ?_ | refine w22 ?_
  refine s_reg fun K hK => ?_
  simp (maxSteps := 4000000) +contextual [hp]
  refine callK (hP) (by simp) ?_
  simp (maxSteps := 4000000) +contextual [hp]
  refine hK _ ?_
  clear hK K
  repeat' first | refine w0 ?_ | refine w1 ?_ | ((first | refine w2 fun K hK => ?_ | refine w3 fun K hK => ?_ | refine w4 fun K hK => ?_ | refine w5 fun K hK => ?_); simp (maxSteps := 4000000) +contextual [hp]; (try (refine finD rfl ?_; simp)); refine hK _ ?_; clear hK K) | ((first | refine w6 rfl (fun h => ?_) (fun h => ?_) | refine w7 rfl (fun h => ?_) (fun h => ?_)) <;> (replace hp := And.intro h hp; clear h; try simp only [z0, z1, z2, z3, z4, z5, z6, z7, z8, z9, z10, z11, z12] at hp)) | refine w8 ?_ | refine w9 ?_ | refine w10 ?_ | refine w11 ?_ | refine w12 ?_ | refine w13 ?_ | refine w14 ?_ | refine w15 ?_ | refine w16 ?_ | refine w17 ?_ | refine w18 ?_ | refine w19 ?_ | refine w20 ?_ | refine w21 (by decide) ?_ | refine hleave .ret _ (by simp) ?_ | refine hleave (.exit _) _ (by simp) ?_ | refine w22 ?_
  refine s_reg fun K hK => ?_
  simp (maxSteps := 4000000) +contextual [hp]
  refine callK (hX) (by simp) ?_
  simp (maxSteps := 4000000) +contextual [hp]
  refine hK _ ?_
  clear hK K
  repeat' first | refine w0 ?_ | refine w1 ?_ | ((first | refine w2 fun K hK => ?_ | refine w3 fun K hK => ?_ | refine w4 fun K hK => ?_ | refine w5 fun K hK => ?_); simp (maxSteps := 4000000) +contextual [hp]; (try (refine finD rfl ?_; simp)); refine hK _ ?_; clear hK K) | ((first | refine w6 rfl (fun h => ?_) (fun h => ?_) | refine w7 rfl (fun h => ?_) (fun h => ?_)) <;> (replace hp := And.intro h hp; clear h; try simp only [z0, z1, z2, z3, z4, z5, z6, z7, z8, z9, z10, z11, z12] at hp)) | refine w8 ?_ | refine w9 ?_ | refine w10 ?_ | refine w11 ?_ | refine w12 ?_ | refine w13 ?_ | refine w14 ?_ | refine w15 ?_ | refine w16 ?_ | refine w17 ?_ | refine w18 ?_ | refine w19 ?_ | refine w20 ?_ | refine w21 (by decide) ?_ | refine hleave .ret _ (by simp) ?_ | refine hleave (.exit _) _ (by simp) ?_ | refine w22 ?_
  refine s_reg fun K hK => ?_
  simp (maxSteps := 4000000) +contextual [hp]
  refine callK (h1) (by simp) ?_
  simp (maxSteps := 4000000) +contextual [hp]
  refine callK (h2) (by simp) ?_
  simp (maxSteps := 4000000) +contextual [hp]
  refine hK _ ?_
  clear hK K
  repeat' first | refine w0 ?_ | refine w1 ?_ | ((first | refine w2 fun K hK => ?_ | refine w3 fun K hK => ?_ | refine w4 fun K hK => ?_ | refine w5 fun K hK => ?_); simp (maxSteps := 4000000) +contextual [hp]; (try (refine finD rfl ?_; simp)); refine hK _ ?_; clear hK K) | ((first | refine w6 rfl (fun h => ?_) (fun h => ?_) | refine w7 rfl (fun h => ?_) (fun h => ?_)) <;> (replace hp := And.intro h hp; clear h; try simp only [z0, z1, z2, z3, z4, z5, z6, z7, z8, z9, z10, z11, z12] at hp)) | refine w8 ?_ | refine w9 ?_ | refine w10 ?_ | refine w11 ?_ | refine w12 ?_ | refine w13 ?_ | refine w14 ?_ | refine w15 ?_ | refine w16 ?_ | refine w17 ?_ | refine w18 ?_ | refine w19 ?_ | refine w20 ?_ | refine w21 (by decide) ?_ | refine hleave .ret _ (by simp) ?_ | refine hleave (.exit _) _ (by simp) ?_ | refine w22 ?_
  refine s_reg fun K hK => ?_
  simp (maxSteps := 4000000) +contextual [hp]
  refine callK (hC) (by simp) ?_
  simp (maxSteps := 4000000) +contextual [hp]
  refine hK _ ?_
  clear hK K
  repeat' first | refine w0 ?_ | refine w1 ?_ | ((first | refine w2 fun K hK => ?_ | refine w3 fun K hK => ?_ | refine w4 fun K hK => ?_ | refine w5 fun K hK => ?_); simp (maxSteps := 4000000) +contextual [ha, hb, hac, hbc, he, he2, hcl, hp]; (try (refine finD rfl ?_; simp)); refine hK _ ?_; clear hK K) | ((first | refine w6 rfl (fun h => ?_) (fun h => ?_) | refine w7 rfl (fun h => ?_) (fun h => ?_)) <;> (replace hp := And.intro h hp; clear h; try simp only [z0, z1, z2, z3, z4, z5, z6, z7, z8, z9, z10, z11, z12] at hp)) | refine w8 ?_ | refine w9 ?_ | refine w10 ?_ | refine w11 ?_ | refine w12 ?_ | refine w13 ?_ | refine w14 ?_ | refine w15 ?_ | refine w16 ?_ | refine w17 ?_ | refine w18 ?_ | refine w19 ?_ | refine w20 ?_ | refine w21 (by decide) ?_ | refine hleave .ret _ (by simp) ?_ | refine hleave (.exit _) _ (by simp) ?_ | refine w22 ?_
  refine c_loopI (fun (j : Nat) => (⟨[(1, nV a), (2, nV b), (8, .ref (.loc 8) 0), (10, .slice 1 (l.map nV)), (11, nV 0), (13, nV j)], gSub 19 G ++ [(.loc 8, .cells false [.slice 2 (N.map ndV), .slice 2 (E.map prV)])]⟩ : St))
    (fun j => j ≤ l.length) (fun j => l.length - j) 0 (by simp) (Nat.zero_le _) (fun j K' hj hnext hleave => ?_)
  by_cases hjl : j < l.length
  · have hw : IntKind.wrap .i64 ((j : Int) + 1) = ((j + 1 : Nat) : Int) := wrapN (by omega) (by omega)
    have hi := hl _ (nth_mem hjl)
    have hi1 : ¬ ((nth l j : Nat) : Int) < 0 := by omega
    have hi2 : ¬ (E.length : Int) ≤ ((nth l j : Nat) : Int) := by omega
    have hi3 : ¬ E.length ≤ nth l j := by omega
    have hw1 : IntKind.wrap .i64 1 = 1 := by decide
    by_cases h0 : j = 0
    · subst h0
      have hjl0 : (0 : Int) < (l.length : Int) := by omega
      repeat' first | refine w0 ?_ | refine w1 ?_ | ((first | refine w2 fun K hK => ?_ | refine w3 fun K hK => ?_ | refine w4 fun K hK => ?_ | refine w5 fun K hK => ?_); simp (maxSteps := 4000000) +contextual [hjl, hjl0, hi, hi1, hi2, hi3, hp]; (try (refine finD rfl ?_; simp)); refine hK _ ?_; clear hK K) | ((first | refine w6 rfl (fun h => ?_) (fun h => ?_) | refine w7 rfl (fun h => ?_) (fun h => ?_)) <;> (replace hp := And.intro h hp; clear h; try simp only [z0, z1, z2, z3, z4, z5, z6, z7, z8, z9, z10, z11, z12] at hp)) | refine w8 ?_ | refine w9 ?_ | refine w10 ?_ | refine w11 ?_ | refine w12 ?_ | refine w13 ?_ | refine w14 ?_ | refine w15 ?_ | refine w16 ?_ | refine w17 ?_ | refine w18 ?_ | refine w19 ?_ | refine w20 ?_ | refine w21 (by decide) ?_ | refine hleave .ret _ (by simp) ?_ | refine hleave (.exit _) _ (by simp) ?_ | refine w22 ?_
      all_goals refine hnext _ 1 (by simp [hw1]) (by omega) (by omega)
    · obtain ⟨q, hjq⟩ : ∃ q, j = q + 1 := ⟨j - 1, by omega⟩
      have hlt : nth l q < nth l j := by rw [hjq]; exact hs q (by omega)
      have hq : q < l.length := by omega
      have hsub : IntKind.wrap .i64 ((j : Int) - 1) = ((q : Nat) : Int) := wrapN (by omega) (by omega)
      have hpos : (0 : Int) < (j : Int) := by omega
      have hpos2 : 0 < j := by omega
      have hlt2 : ¬ ((nth l j : Nat) : Int) ≤ ((nth l q : Nat) : Int) := by omega
      have hlt3 : ¬ nth l j ≤ nth l q := by omega
      repeat' first | refine w0 ?_ | refine w1 ?_ | ((first | refine w2 fun K hK => ?_ | refine w3 fun K hK => ?_ | refine w4 fun K hK => ?_ | refine w5 fun K hK => ?_); simp (maxSteps := 4000000) +contextual [hjl, hi, hi1, hi2, hi3, hq, hsub, hpos, hpos2, hlt2, hlt3, hp]; (try (refine finD rfl ?_; simp)); refine hK _ ?_; clear hK K) | ((first | refine w6 rfl (fun h => ?_) (fun h => ?_) | refine w7 rfl (fun h => ?_) (fun h => ?_)) <;> (replace hp := And.intro h hp; clear h; try simp only [z0, z1, z2, z3, z4, z5, z6, z7, z8, z9, z10, z11, z12] at hp)) | refine w8 ?_ | refine w9 ?_ | refine w10 ?_ | refine w11 ?_ | refine w12 ?_ | refine w13 ?_ | refine w14 ?_ | refine w15 ?_ | refine w16 ?_ | refine w17 ?_ | refine w18 ?_ | refine w19 ?_ | refine w20 ?_ | refine w21 (by decide) ?_ | refine hleave .ret _ (by simp) ?_ | refine hleave (.exit _) _ (by simp) ?_ | refine w22 ?_
      all_goals refine hnext _ (j + 1) (by simp [hw]) hjl (by omega)
  · have hje : j = l.length := by omega
    subst hje
    repeat' first | refine w0 ?_ | refine w1 ?_ | ((first | refine w2 fun K hK => ?_ | refine w3 fun K hK => ?_ | refine w4 fun K hK => ?_ | refine w5 fun K hK => ?_); simp (maxSteps := 4000000) +contextual [hp]; (try (refine finD rfl ?_; simp)); refine hK _ ?_; clear hK K) | ((first | refine w6 rfl (fun h => ?_) (fun h => ?_) | refine w7 rfl (fun h => ?_) (fun h => ?_)) <;> (replace hp := And.intro h hp; clear h; try simp only [z0, z1, z2, z3, z4, z5, z6, z7, z8, z9, z10, z11, z12] at hp)) | refine w8 ?_ | refine w9 ?_ | refine w10 ?_ | refine w11 ?_ | refine w12 ?_ | refine w13 ?_ | refine w14 ?_ | refine w15 ?_ | refine w16 ?_ | refine w17 ?_ | refine w18 ?_ | refine w19 ?_ | refine w20 ?_ | refine w21 (by decide) ?_ | refine hleave .ret _ (by simp) ?_ | refine hleave (.exit _) _ (by simp) ?_ | refine w22 ?_
    refine s_reg fun K hK => ?_
    simp (maxSteps := 4000000) +contextual [hp]
    refine callK (hO) (by simp) ?_
    simp (maxSteps := 4000000) +contextual [hp]
    refine callK (hD) (by simp) ?_
    simp (maxSteps := 4000000) +contextual [hp]
    refine hK _ ?_
    clear hK K
    repeat' first | refine w0 ?_ | refine w1 ?_ | ((first | refine w2 fun K hK => ?_ | refine w3 fun K hK => ?_ | refine w4 fun K hK => ?_ | refine w5 fun K hK => ?_); simp (maxSteps := 4000000) +contextual [ha, hb, had, hbd, hd, hd2, hdl, hp]; (try (refine finD rfl ?_; simp)); refine hK _ ?_; clear hK K) | ((first | refine w6 rfl (fun h => ?_) (fun h => ?_) | refine w7 rfl (fun h => ?_) (fun h => ?_)) <;> (replace hp := And.intro h hp; clear h; try simp only [z0, z1, z2, z3, z4, z5, z6, z7, z8, z9, z10, z11, z12] at hp)) | refine w8 ?_ | refine w9 ?_ | refine w10 ?_ | refine w11 ?_ | refine w12 ?_ | refine w13 ?_ | refine w14 ?_ | refine w15 ?_ | refine w16 ?_ | refine w17 ?_ | refine w18 ?_ | refine w19 ?_ | refine w20 ?_ | refine w21 (by decide) ?_ | refine hleave .ret _ (by simp) ?_ | refine hleave (.exit _) _ (by simp) ?_ | refine w22 ?_
    all_goals simp [EndA]
end Go.Proofs.YtjabgfnljbnmmaaDoor
