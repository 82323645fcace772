/- A part of the proof of a law of this seat: no condition. -/
import Derived.Test.YtjabgfnljbnmmaaDoorEufL7
import Derived.Test.YtjabgfnljbnmmaaDoorD1
import Derived.Test.YtjabgfnljbnmmaaDoorD2
import Derived.Test.YtjabgfnljbnmmaaDoorD4
import Derived.Test.YtjabgfnljbnmmaaDoorE8
import Derived.Test.YtjabgfnljbnmmaaDoorE9
set_option linter.unusedSimpArgs false
set_option linter.unusedVariables false
set_option maxRecDepth 20000
set_option maxHeartbeats 40000000
namespace Go.Proofs.YtjabgfnljbnmmaaDoor
open Go.Ax
attribute [-simp] List.map_set
/-- Terms said one after the other. -/
inductive NRun (B : Heap) (N : List Nd) : Nat → GS → GS → Prop
  | done {G} : NRun B N N.length G G
  | step {j G G1 G' r} (h : j < N.length) (he : Ok B 18 [gR, .str (nth N j).f, .slice 1 ((nth N j).a.map nV)] (gObs G) r (gObs G1) []) (hr : NRun B N (j + 1) G1 G') : NRun B N j G G'
/-- Equations said from the last on, the sides changed. -/
inductive RRun (B : Heap) (E : List (Nat × Nat)) : Nat → GS → GS → Prop
  | done {G} : RRun B E 0 G G
  | step {m G G1 G' r} (h : m < E.length) (he : Ok B 25 [gR, nV (nth E m).2, nV (nth E m).1] (gObs G) r (gObs G1) []) (hr : RRun B E m G1 G') : RRun B E (m + 1) G G'
theorem turned_law {B : Heap} {sc : List OpS} {G H1 H2 : GS} {N : List Nd} {E : List (Nat × Nat)} {c : List Nat} (hA : Ok B 11 [] [] (.bool true) [] [])
    (hP : Ok B 12 [.slice 5 (sc.map opV)] [] (.tup [.ref (.sub 0 0) 0, wV2 N E, .bool true]) [] (gNew 0 G)) (hcl : c.length = N.length) (hNl : N.length ≤ 1000) (hEl : E.length ≤ 1000)
    (hR : NRun B N 0 gs0 H1) (hQ : RRun B E E.length H1 H2)
    (hF : ∀ a, a < N.length → Ok B 22 [gR, nV a] (gObs G) (.tup [nV (nth c a), nV 0]) (gObs G) []) (hF2 : ∀ a, a < N.length → Ok B 22 [gR, nV a] (gObs H2) (.tup [nV (nth c a), nV 0]) (gObs H2) []) :
    Ok B 7 [.slice 5 (sc.map opV)] [] (.bool true) [] [] := by
  refine k7 ?_
  have hp : True := trivial
  repeat' first | refine w0 ?_ | refine w1 ?_ | ((first | refine w2 fun K hK => ?_ | refine w3 fun K hK => ?_ | refine w4 fun K hK => ?_ | refine w5 fun K hK => ?_); simp (maxSteps := 4000000) +contextual [hp]; (try (refine finD rfl ?_; simp)); refine hK _ ?_; clear hK K) | ((first | refine w6 rfl (fun h => ?_) (fun h => ?_) | refine w7 rfl (fun h => ?_) (fun h => ?_)) <;> (replace hp := And.intro h hp; clear h; try simp only [z0, z1, z2, z3, z4, z5, z6, z7, z8, z9, z10, z11, z12] at hp)) | refine w8 ?_ | refine w9 ?_ | refine w10 ?_ | refine w11 ?_ | refine w12 ?_ | refine w13 ?_ | refine w14 ?_ | refine w15 ?_ | refine w16 ?_ | refine w17 ?_ | refine w18 ?_ | refine w19 ?_ | refine w20 ?_ | refine w21 (by decide) ?_ | refine hleave .ret _ (by simp) ?_ | refine hleave (.exit _) _ (by simp) ?_ | refine w22 ?_
  refine s_reg fun K hK => ?_
  simp (maxSteps := 4000000) +contextual [hp]
  refine callK (hA) (by simp) ?_
  simp (maxSteps := 4000000) +contextual [hp]
  refine hK _ ?_
  clear hK K
  repeat' first | refine w0 ?_ | refine w1 ?_ | ((first | refine w2 fun K hK => ?_ | refine w3 fun K hK => ?_ | refine w4 fun K hK => ?_ | refine w5 fun K hK => ?_); simp (maxSteps := 4000000) +contextual [hp]; (try (refine finD rfl ?_; simp)); refine hK _ ?_; clear hK K) | ((first | refine w6 rfl (fun h => ?_) (fun h => ?_) | refine w7 rfl (fun h => ?_) (fun h => ?_)) <;> (replace hp := And.intro h hp; clear h; try simp only [z0, z1, z2, z3, z4, z5, z6, z7, z8, z9, z10, z11, z12] at hp)) | refine w8 ?_ | refine w9 ?_ | refine w10 ?_ | refine w11 ?_ | refine w12 ?_ | refine w13 ?_ | refine w14 ?_ | refine w15 ?_ | refine w16 ?_ | refine w17 ?_ | refine w18 ?_ | refine w19 ?_ | refine w20 ?_ | refine w21 (by decide) ?_ | refine hleave .ret _ (by simp) ?_ | refine hleave (.exit _) _ (by simp) ?_ | refine w22 ?_
  refine s_reg fun K hK => ?_
  simp (maxSteps := 4000000) +contextual [hp]
  refine callK (hP) (by simp) ?_
  simp (maxSteps := 4000000) +contextual [hp]
  refine hK _ ?_
  clear hK K
  repeat' first | refine w0 ?_ | refine w1 ?_ | ((first | refine w2 fun K hK => ?_ | refine w3 fun K hK => ?_ | refine w4 fun K hK => ?_ | refine w5 fun K hK => ?_); simp (maxSteps := 4000000) +contextual [hp]; (try (refine finD rfl ?_; simp)); refine hK _ ?_; clear hK K) | ((first | refine w6 rfl (fun h => ?_) (fun h => ?_) | refine w7 rfl (fun h => ?_) (fun h => ?_)) <;> (replace hp := And.intro h hp; clear h; try simp only [z0, z1, z2, z3, z4, z5, z6, z7, z8, z9, z10, z11, z12] at hp)) | refine w8 ?_ | refine w9 ?_ | refine w10 ?_ | refine w11 ?_ | refine w12 ?_ | refine w13 ?_ | refine w14 ?_ | refine w15 ?_ | refine w16 ?_ | refine w17 ?_ | refine w18 ?_ | refine w19 ?_ | refine w20 ?_ | refine w21 (by decide) ?_ | refine hleave .ret _ (by simp) ?_ | refine hleave (.exit _) _ (by simp) ?_ | refine w22 ?_
  refine s_reg fun K hK => ?_
  simp (maxSteps := 4000000) +contextual [hp]
  refine callK (new_ok) (by simp) ?_
  simp (maxSteps := 4000000) +contextual [hp]
  refine hK _ ?_
  clear hK K
  repeat' first | refine w0 ?_ | refine w1 ?_ | ((first | refine w2 fun K hK => ?_ | refine w3 fun K hK => ?_ | refine w4 fun K hK => ?_ | refine w5 fun K hK => ?_); simp (maxSteps := 4000000) +contextual [hp]; (try (refine finD rfl ?_; simp)); refine hK _ ?_; clear hK K) | ((first | refine w6 rfl (fun h => ?_) (fun h => ?_) | refine w7 rfl (fun h => ?_) (fun h => ?_)) <;> (replace hp := And.intro h hp; clear h; try simp only [z0, z1, z2, z3, z4, z5, z6, z7, z8, z9, z10, z11, z12] at hp)) | refine w8 ?_ | refine w9 ?_ | refine w10 ?_ | refine w11 ?_ | refine w12 ?_ | refine w13 ?_ | refine w14 ?_ | refine w15 ?_ | refine w16 ?_ | refine w17 ?_ | refine w18 ?_ | refine w19 ?_ | refine w20 ?_ | refine w21 (by decide) ?_ | refine hleave .ret _ (by simp) ?_ | refine hleave (.exit _) _ (by simp) ?_ | refine w22 ?_
  refine c_loopI (fun (q : Nat × GS) => (⟨[(3, .ref (.sub 18 0) 0), (4, .ref (.loc 4) 0), (6, .ref (.sub 22 0) 0), (7, nV q.1)], gSub 18 G ++ (gSub 22 q.2 ++ [(.loc 4, .cells false [.slice 2 (N.map ndV), .slice 2 (E.map prV)])])⟩ : St))
    (fun q => NRun B N q.1 q.2 H1) (fun q => N.length - q.1) (0, gs0) (by simp) hR (fun q K2 hq hnext2 hleave => ?_)
  obtain ⟨j, G3⟩ := q
  simp only at hq hnext2 ⊢
  cases hq with
  | done =>
    have hwe : IntKind.wrap .i64 ((E.length : Int) - 1) = (E.length : Int) - 1 := by
      by_cases h0 : E.length = 0
      · rw [h0]; decide
      · obtain ⟨e, he⟩ : ∃ e, E.length = e + 1 := ⟨E.length - 1, by omega⟩
        have := wrapN (n := (E.length : Int) - 1) (m := e) (by omega) (by omega)
        rw [this]; omega
    obtain ⟨ze, hze⟩ : ∃ ze, ze = (E.length : Int) - 1 := ⟨_, rfl⟩
    have hwe : IntKind.wrap .i64 ((E.length : Int) - 1) = ze := by rw [hze]; exact hwe
    repeat' first | refine w0 ?_ | refine w1 ?_ | ((first | refine w2 fun K hK => ?_ | refine w3 fun K hK => ?_ | refine w4 fun K hK => ?_ | refine w5 fun K hK => ?_); simp (maxSteps := 4000000) +contextual [hwe, hp]; (try (refine finD rfl ?_; simp)); refine hK _ ?_; clear hK K) | ((first | refine w6 rfl (fun h => ?_) (fun h => ?_) | refine w7 rfl (fun h => ?_) (fun h => ?_)) <;> (replace hp := And.intro h hp; clear h; try simp only [z0, z1, z2, z3, z4, z5, z6, z7, z8, z9, z10, z11, z12] at hp)) | refine w8 ?_ | refine w9 ?_ | refine w10 ?_ | refine w11 ?_ | refine w12 ?_ | refine w13 ?_ | refine w14 ?_ | refine w15 ?_ | refine w16 ?_ | refine w17 ?_ | refine w18 ?_ | refine w19 ?_ | refine w20 ?_ | refine w21 (by decide) ?_ | refine hleave .ret _ (by simp) ?_ | refine hleave (.exit _) _ (by simp) ?_ | refine w22 ?_
    refine c_loopI (fun (q : Nat × Int × GS) => (⟨[(3, .ref (.sub 18 0) 0), (4, .ref (.loc 4) 0), (6, .ref (.sub 22 0) 0), (8, iV q.2.1)], gSub 18 G ++ (gSub 22 q.2.2 ++ [(.loc 4, .cells false [.slice 2 (N.map ndV), .slice 2 (E.map prV)])])⟩ : St))
      (fun q => RRun B E q.1 q.2.2 H2 ∧ q.2.1 = (q.1 : Int) - 1) (fun q => q.1) (E.length, ze, H1) (by simp [hwe]) ⟨hQ, hze⟩ (fun q K3 hq hnext3 hleave => ?_)
    obtain ⟨m, z, G4⟩ := q
    simp only at hq hnext3 ⊢
    obtain ⟨hq, hz⟩ := hq
    cases hq with
    | done =>
      have hz2 : ¬ (0 : Int) ≤ z := by omega
      repeat' first | refine w0 ?_ | refine w1 ?_ | ((first | refine w2 fun K hK => ?_ | refine w3 fun K hK => ?_ | refine w4 fun K hK => ?_ | refine w5 fun K hK => ?_); simp (maxSteps := 4000000) +contextual [hz2, hp]; (try (refine finD rfl ?_; simp)); refine hK _ ?_; clear hK K) | ((first | refine w6 rfl (fun h => ?_) (fun h => ?_) | refine w7 rfl (fun h => ?_) (fun h => ?_)) <;> (replace hp := And.intro h hp; clear h; try simp only [z0, z1, z2, z3, z4, z5, z6, z7, z8, z9, z10, z11, z12] at hp)) | refine w8 ?_ | refine w9 ?_ | refine w10 ?_ | refine w11 ?_ | refine w12 ?_ | refine w13 ?_ | refine w14 ?_ | refine w15 ?_ | refine w16 ?_ | refine w17 ?_ | refine w18 ?_ | refine w19 ?_ | refine w20 ?_ | refine w21 (by decide) ?_ | refine hleave .ret _ (by simp) ?_ | refine hleave (.exit _) _ (by simp) ?_ | refine w22 ?_
      refine c_loopI (fun (j : Nat) => (⟨[(3, .ref (.sub 18 0) 0), (4, .ref (.loc 4) 0), (6, .ref (.sub 22 0) 0), (9, nV j)], gSub 18 G ++ (gSub 22 H2 ++ [(.loc 4, .cells false [.slice 2 (N.map ndV), .slice 2 (E.map prV)])])⟩ : St))
        (fun j => j ≤ N.length) (fun j => N.length - j) 0 (by simp) (Nat.zero_le _) (fun j K4 hj hnext4 hleave => ?_)
      by_cases hjl : j < N.length
      · have hw : IntKind.wrap .i64 ((j : Int) + 1) = ((j + 1 : Nat) : Int) := wrapN (by omega) (by omega)
        have hf := hF j hjl
        have hf2 := hF2 j hjl
        repeat' first | refine w0 ?_ | refine w1 ?_ | ((first | refine w2 fun K hK => ?_ | refine w3 fun K hK => ?_ | refine w4 fun K hK => ?_ | refine w5 fun K hK => ?_); simp (maxSteps := 4000000) +contextual [hjl, hp]; (try (refine finD rfl ?_; simp)); refine hK _ ?_; clear hK K) | ((first | refine w6 rfl (fun h => ?_) (fun h => ?_) | refine w7 rfl (fun h => ?_) (fun h => ?_)) <;> (replace hp := And.intro h hp; clear h; try simp only [z0, z1, z2, z3, z4, z5, z6, z7, z8, z9, z10, z11, z12] at hp)) | refine w8 ?_ | refine w9 ?_ | refine w10 ?_ | refine w11 ?_ | refine w12 ?_ | refine w13 ?_ | refine w14 ?_ | refine w15 ?_ | refine w16 ?_ | refine w17 ?_ | refine w18 ?_ | refine w19 ?_ | refine w20 ?_ | refine w21 (by decide) ?_ | refine hleave .ret _ (by simp) ?_ | refine hleave (.exit _) _ (by simp) ?_ | refine w22 ?_
        refine s_reg fun K hK => ?_
        simp (maxSteps := 4000000) +contextual [hjl, hp]
        refine callK (hf) (by simp) ?_
        simp (maxSteps := 4000000) +contextual [hjl, hp]
        refine hK _ ?_
        clear hK K
        repeat' first | refine w0 ?_ | refine w1 ?_ | ((first | refine w2 fun K hK => ?_ | refine w3 fun K hK => ?_ | refine w4 fun K hK => ?_ | refine w5 fun K hK => ?_); simp (maxSteps := 4000000) +contextual [hjl, hp]; (try (refine finD rfl ?_; simp)); refine hK _ ?_; clear hK K) | ((first | refine w6 rfl (fun h => ?_) (fun h => ?_) | refine w7 rfl (fun h => ?_) (fun h => ?_)) <;> (replace hp := And.intro h hp; clear h; try simp only [z0, z1, z2, z3, z4, z5, z6, z7, z8, z9, z10, z11, z12] at hp)) | refine w8 ?_ | refine w9 ?_ | refine w10 ?_ | refine w11 ?_ | refine w12 ?_ | refine w13 ?_ | refine w14 ?_ | refine w15 ?_ | refine w16 ?_ | refine w17 ?_ | refine w18 ?_ | refine w19 ?_ | refine w20 ?_ | refine w21 (by decide) ?_ | refine hleave .ret _ (by simp) ?_ | refine hleave (.exit _) _ (by simp) ?_ | refine w22 ?_
        refine s_reg fun K hK => ?_
        simp (maxSteps := 4000000) +contextual [hjl, hp]
        refine callK (hf2) (by simp) ?_
        simp (maxSteps := 4000000) +contextual [hjl, hp]
        refine hK _ ?_
        clear hK K
        repeat' first | refine w0 ?_ | refine w1 ?_ | ((first | refine w2 fun K hK => ?_ | refine w3 fun K hK => ?_ | refine w4 fun K hK => ?_ | refine w5 fun K hK => ?_); simp (maxSteps := 4000000) +contextual [hjl, hp]; (try (refine finD rfl ?_; simp)); refine hK _ ?_; clear hK K) | ((first | refine w6 rfl (fun h => ?_) (fun h => ?_) | refine w7 rfl (fun h => ?_) (fun h => ?_)) <;> (replace hp := And.intro h hp; clear h; try simp only [z0, z1, z2, z3, z4, z5, z6, z7, z8, z9, z10, z11, z12] at hp)) | refine w8 ?_ | refine w9 ?_ | refine w10 ?_ | refine w11 ?_ | refine w12 ?_ | refine w13 ?_ | refine w14 ?_ | refine w15 ?_ | refine w16 ?_ | refine w17 ?_ | refine w18 ?_ | refine w19 ?_ | refine w20 ?_ | refine w21 (by decide) ?_ | refine hleave .ret _ (by simp) ?_ | refine hleave (.exit _) _ (by simp) ?_ | refine w22 ?_
        all_goals refine hnext4 _ (j + 1) (by simp [hw]) hjl (by omega)
      · have hje : j = N.length := by omega
        subst hje
        repeat' first | refine w0 ?_ | refine w1 ?_ | ((first | refine w2 fun K hK => ?_ | refine w3 fun K hK => ?_ | refine w4 fun K hK => ?_ | refine w5 fun K hK => ?_); simp (maxSteps := 4000000) +contextual [hp]; (try (refine finD rfl ?_; simp)); refine hK _ ?_; clear hK K) | ((first | refine w6 rfl (fun h => ?_) (fun h => ?_) | refine w7 rfl (fun h => ?_) (fun h => ?_)) <;> (replace hp := And.intro h hp; clear h; try simp only [z0, z1, z2, z3, z4, z5, z6, z7, z8, z9, z10, z11, z12] at hp)) | refine w8 ?_ | refine w9 ?_ | refine w10 ?_ | refine w11 ?_ | refine w12 ?_ | refine w13 ?_ | refine w14 ?_ | refine w15 ?_ | refine w16 ?_ | refine w17 ?_ | refine w18 ?_ | refine w19 ?_ | refine w20 ?_ | refine w21 (by decide) ?_ | refine hleave .ret _ (by simp) ?_ | refine hleave (.exit _) _ (by simp) ?_ | refine w22 ?_
        all_goals simp [EndA]
    | @step m _ _ _ _ hm he hr =>
      have hzm : z = (m : Int) := by omega
      subst hzm
      have hw : IntKind.wrap .i64 ((m : Int) - 1) = (m : Int) - 1 := by
        by_cases h0 : m = 0
        · rw [h0]; decide
        · obtain ⟨e, he⟩ : ∃ e, m = e + 1 := ⟨m - 1, by omega⟩
          have := wrapN (n := (m : Int) - 1) (m := e) (by omega) (by omega)
          rw [this]; omega
      repeat' first | refine w0 ?_ | refine w1 ?_ | ((first | refine w2 fun K hK => ?_ | refine w3 fun K hK => ?_ | refine w4 fun K hK => ?_ | refine w5 fun K hK => ?_); simp (maxSteps := 4000000) +contextual [hm, hp]; (try (refine finD rfl ?_; simp)); refine hK _ ?_; clear hK K) | ((first | refine w6 rfl (fun h => ?_) (fun h => ?_) | refine w7 rfl (fun h => ?_) (fun h => ?_)) <;> (replace hp := And.intro h hp; clear h; try simp only [z0, z1, z2, z3, z4, z5, z6, z7, z8, z9, z10, z11, z12] at hp)) | refine w8 ?_ | refine w9 ?_ | refine w10 ?_ | refine w11 ?_ | refine w12 ?_ | refine w13 ?_ | refine w14 ?_ | refine w15 ?_ | refine w16 ?_ | refine w17 ?_ | refine w18 ?_ | refine w19 ?_ | refine w20 ?_ | refine w21 (by decide) ?_ | refine hleave .ret _ (by simp) ?_ | refine hleave (.exit _) _ (by simp) ?_ | refine w22 ?_
      refine c_regD fun K hK => ?_
      simp (maxSteps := 4000000) +contextual [hm, hp]
      refine callK (he) (by simp) ?_
      simp (maxSteps := 4000000) +contextual [hm, hp]
      refine finD rfl ?_
      simp
      refine hK _ ?_
      clear hK K
      repeat' first | refine w0 ?_ | refine w1 ?_ | ((first | refine w2 fun K hK => ?_ | refine w3 fun K hK => ?_ | refine w4 fun K hK => ?_ | refine w5 fun K hK => ?_); simp (maxSteps := 4000000) +contextual [hm, hp]; (try (refine finD rfl ?_; simp)); refine hK _ ?_; clear hK K) | ((first | refine w6 rfl (fun h => ?_) (fun h => ?_) | refine w7 rfl (fun h => ?_) (fun h => ?_)) <;> (replace hp := And.intro h hp; clear h; try simp only [z0, z1, z2, z3, z4, z5, z6, z7, z8, z9, z10, z11, z12] at hp)) | refine w8 ?_ | refine w9 ?_ | refine w10 ?_ | refine w11 ?_ | refine w12 ?_ | refine w13 ?_ | refine w14 ?_ | refine w15 ?_ | refine w16 ?_ | refine w17 ?_ | refine w18 ?_ | refine w19 ?_ | refine w20 ?_ | refine w21 (by decide) ?_ | refine hleave .ret _ (by simp) ?_ | refine hleave (.exit _) _ (by simp) ?_ | refine w22 ?_
      all_goals refine hnext3 _ (m, (m : Int) - 1, _) (by simp [hw]) ⟨hr, rfl⟩ (by simp)
  | step hjl he hr =>
    have hw : IntKind.wrap .i64 ((j : Int) + 1) = ((j + 1 : Nat) : Int) := wrapN (by omega) (by omega)
    repeat' first | refine w0 ?_ | refine w1 ?_ | ((first | refine w2 fun K hK => ?_ | refine w3 fun K hK => ?_ | refine w4 fun K hK => ?_ | refine w5 fun K hK => ?_); simp (maxSteps := 4000000) +contextual [hjl, hp]; (try (refine finD rfl ?_; simp)); refine hK _ ?_; clear hK K) | ((first | refine w6 rfl (fun h => ?_) (fun h => ?_) | refine w7 rfl (fun h => ?_) (fun h => ?_)) <;> (replace hp := And.intro h hp; clear h; try simp only [z0, z1, z2, z3, z4, z5, z6, z7, z8, z9, z10, z11, z12] at hp)) | refine w8 ?_ | refine w9 ?_ | refine w10 ?_ | refine w11 ?_ | refine w12 ?_ | refine w13 ?_ | refine w14 ?_ | refine w15 ?_ | refine w16 ?_ | refine w17 ?_ | refine w18 ?_ | refine w19 ?_ | refine w20 ?_ | refine w21 (by decide) ?_ | refine hleave .ret _ (by simp) ?_ | refine hleave (.exit _) _ (by simp) ?_ | refine w22 ?_
    refine c_regD fun K hK => ?_
    simp (maxSteps := 4000000) +contextual [hjl, hp]
    refine callK (he) (by simp) ?_
    simp (maxSteps := 4000000) +contextual [hjl, hp]
    refine finD rfl ?_
    simp
    refine hK _ ?_
    clear hK K
    repeat' first | refine w0 ?_ | refine w1 ?_ | ((first | refine w2 fun K hK => ?_ | refine w3 fun K hK => ?_ | refine w4 fun K hK => ?_ | refine w5 fun K hK => ?_); simp (maxSteps := 4000000) +contextual [hjl, hp]; (try (refine finD rfl ?_; simp)); refine hK _ ?_; clear hK K) | ((first | refine w6 rfl (fun h => ?_) (fun h => ?_) | refine w7 rfl (fun h => ?_) (fun h => ?_)) <;> (replace hp := And.intro h hp; clear h; try simp only [z0, z1, z2, z3, z4, z5, z6, z7, z8, z9, z10, z11, z12] at hp)) | refine w8 ?_ | refine w9 ?_ | refine w10 ?_ | refine w11 ?_ | refine w12 ?_ | refine w13 ?_ | refine w14 ?_ | refine w15 ?_ | refine w16 ?_ | refine w17 ?_ | refine w18 ?_ | refine w19 ?_ | refine w20 ?_ | refine w21 (by decide) ?_ | refine hleave .ret _ (by simp) ?_ | refine hleave (.exit _) _ (by simp) ?_ | refine w22 ?_
    all_goals refine hnext2 _ (j + 1, _) (by simp [hw]) hr (by simp; omega)
end Go.Proofs.YtjabgfnljbnmmaaDoor
