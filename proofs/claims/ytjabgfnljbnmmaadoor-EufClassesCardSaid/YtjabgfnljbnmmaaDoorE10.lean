/- A part of the proof of a law of this seat: no condition. -/
import Derived.Test.YtjabgfnljbnmmaaDoorE7
set_option linter.unusedSimpArgs false
set_option linter.unusedVariables false
set_option maxRecDepth 20000
set_option maxHeartbeats 40000000
namespace Go.Proofs.YtjabgfnljbnmmaaDoor
open Go.Ax
attribute [-simp] List.map_set
/-- Terms written anew. -/
inductive BRun (K : TypeId × Nat × Nat) (N : List Nd) : Nat → GS → GS → Prop
 | done {G} : BRun K N N.length G G
 | step {j G G1 G'} (h : j < N.length) (hl : G.N.length = j) (he : Ok (bs K) 37 [gR, nV j] (gObs { G with N := G.N ++ [nth N j] }) (.tup []) (gObs G1) []) (hr : BRun K N (j + 1) G1 G') : BRun K N j G G'
/-- Equations said anew. -/
inductive QRun (K : TypeId × Nat × Nat) (E : List (Nat × Nat)) : Nat → GS → GS → Prop
 | done {G} : QRun K E E.length G G
 | step {j G G1 G' r} (h : j < E.length) (he : Ok (bs K) 25 [gR, nV (nth E j).1, nV (nth E j).2] (gObs G) r (gObs G1) []) (hr : QRun K E (j + 1) G1 G') : QRun K E j G G'
def resetG (G : GS) : GS := { G with N := [], E := [], P := [], C := [], U := [], D := [], S := [], bs := G.bs + G.S.length }
theorem back_bad {K} {G : GS} {n : Int} (h : n < 0 ∨ (G.E.length : Int) < n) : Ok (bs K) 26 [gR, iV n] (gObs G) (nV 1) (gObs G) [] := by
 refine k26 ?_
 have hp : True := trivial
 rcases h with h | h
 ·skip
  repeat' first | refine w0 ?_ | refine w1 ?_ | ((first | refine w2 ?_ | refine w3 ?_ | refine w4 ?_ | refine w5 ?_); intro K hK; simp (maxSteps := 4000000) +contextual [h, hp]; (try (refine finD rfl ?_; simp)); refine hK _ ?_; clear hK K) | ((first | refine w6 rfl ?_ ?_ | refine w7 rfl ?_ ?_) <;> (intro h; replace hp := And.intro h hp; clear h; try simp only [z0, z1, z2, z3, z4, z5, z6, z7, z8, z9, z10, z11, z12] at hp)) | refine w8 ?_ | refine w9 ?_ | refine w10 ?_ | refine w11 ?_ | refine w12 ?_ | refine w13 ?_ | refine w14 ?_ | refine w15 ?_ | refine w16 ?_ | refine w17 ?_ | refine w18 ?_ | refine w19 ?_ | refine w20 ?_ | refine w21 (by decide) ?_ | refine w22 ?_
  all_goals simp [EndA]
 ·skip
  repeat' first | refine w0 ?_ | refine w1 ?_ | ((first | refine w2 ?_ | refine w3 ?_ | refine w4 ?_ | refine w5 ?_); intro K hK; simp (maxSteps := 4000000) +contextual [h, hp]; (try (refine finD rfl ?_; simp)); refine hK _ ?_; clear hK K) | ((first | refine w6 rfl ?_ ?_ | refine w7 rfl ?_ ?_) <;> (intro h; replace hp := And.intro h hp; clear h; try simp only [z0, z1, z2, z3, z4, z5, z6, z7, z8, z9, z10, z11, z12] at hp)) | refine w8 ?_ | refine w9 ?_ | refine w10 ?_ | refine w11 ?_ | refine w12 ?_ | refine w13 ?_ | refine w14 ?_ | refine w15 ?_ | refine w16 ?_ | refine w17 ?_ | refine w18 ?_ | refine w19 ?_ | refine w20 ?_ | refine w21 (by decide) ?_ | refine w22 ?_
  all_goals simp [EndA]
theorem back_ok {K} {G G1 G' : GS} {n : Nat} (hn : n ≤ G.E.length) (hN : G.N.length ≤ 1000000) (hEb : G.E.length ≤ 1000000) (h1 : BRun K G.N 0 (resetG G) G1) (h2 : QRun K (G.E.take n) 0 G1 G') : Ok (bs K) 26 [gR, nV n] (gObs G) (nV 0) (gObs G') [] := by
 obtain ⟨N0, hN0⟩ : ∃ N0, N0 = G.N := ⟨_, rfl⟩
 obtain ⟨E0, hE0⟩ : ∃ E0, E0 = G.E.take n := ⟨_, rfl⟩
 rw [← hE0] at h2
 rw [← hN0] at h1 hN
 have hE0' : (G.E.map prV).take n = E0.map prV := by rw [hE0, List.map_take]
 have hE0l : E0.length = n := by rw [hE0]; simp; omega
 refine k26 ?_
 have hp : True := trivial
 have hn1 : ¬ (n : Int) < 0 := by omega
 have hn2 : ¬ G.E.length < n := by omega
 have hn3 : ¬ (G.E.length : Int) < (n : Int) := by omega
 have hn4 : (n : Int) ≤ (G.E.length : Int) := by omega
 repeat' first | refine w0 ?_ | refine w1 ?_ | ((first | refine w2 ?_ | refine w3 ?_ | refine w4 ?_ | refine w5 ?_); intro K hK; simp (maxSteps := 4000000) +contextual [hn, hn1, hn2, hn3, hn4, hE0', ← hN0, hp]; (try (refine finD rfl ?_; simp)); refine hK _ ?_; clear hK K) | ((first | refine w6 rfl ?_ ?_ | refine w7 rfl ?_ ?_) <;> (intro h; replace hp := And.intro h hp; clear h; try simp only [z0, z1, z2, z3, z4, z5, z6, z7, z8, z9, z10, z11, z12] at hp)) | refine w8 ?_ | refine w9 ?_ | refine w10 ?_ | refine w11 ?_ | refine w12 ?_ | refine w13 ?_ | refine w14 ?_ | refine w15 ?_ | refine w16 ?_ | refine w17 ?_ | refine w18 ?_ | refine w19 ?_ | refine w20 ?_ | refine w21 (by decide) ?_ | refine hleave .ret _ (by simp) ?_ | refine hleave (.exit _) _ (by simp) ?_ | refine w22 ?_
 refine c_loopI (fun (q : GS × Nat) => (⟨[(0, gR), (6, .slice 2 (E0.map prV)), (54, .slice 2 (N0.map ndV)), (55, nV N0.length), (56, nV q.2)], gIn q.1⟩ : St)) (fun q => BRun K N0 q.2 q.1 G1) (fun q => N0.length - q.2) (resetG G, 0) (by simp [resetG]) h1 (fun q K' hr hnext hleave => ?_)
 obtain ⟨G2, j⟩ := q
 simp only at hr hnext ⊢
 cases hr with
 | @step _ _ G3 _ hj hl he hr =>
  have hw : IntKind.wrap .i64 ((j : Int) + 1) = ((j + 1 : Nat) : Int) := wrapN (by omega) (by omega)
  simp only [gObs, List.map_append, List.map_cons, List.map_nil] at he
  have hcap : (G2.N.length + 1) * 40 ≤ 140737488355328 := by omega
  repeat' first | refine w0 ?_ | refine w1 ?_ | ((first | refine w2 ?_ | refine w3 ?_ | refine w4 ?_ | refine w5 ?_); intro K hK; simp (maxSteps := 4000000) +contextual [hj, hcap, hp]; (try (refine finD rfl ?_; simp)); refine hK _ ?_; clear hK K) | ((first | refine w6 rfl ?_ ?_ | refine w7 rfl ?_ ?_) <;> (intro h; replace hp := And.intro h hp; clear h; try simp only [z0, z1, z2, z3, z4, z5, z6, z7, z8, z9, z10, z11, z12] at hp)) | refine w8 ?_ | refine w9 ?_ | refine w10 ?_ | refine w11 ?_ | refine w12 ?_ | refine w13 ?_ | refine w14 ?_ | refine w15 ?_ | refine w16 ?_ | refine w17 ?_ | refine w18 ?_ | refine w19 ?_ | refine w20 ?_ | refine w21 (by decide) ?_ | refine hleave .ret _ (by simp) ?_ | refine hleave (.exit _) _ (by simp) ?_ | refine w22 ?_
  refine c_reg fun K hK => ?_
  simp (maxSteps := 4000000) +contextual [hj, hp]
  refine callK (he) (by simp) ?_
  simp (maxSteps := 4000000) +contextual [hj, hp]
  refine hK _ ?_
  clear hK K
  repeat' first | refine w0 ?_ | refine w1 ?_ | ((first | refine w2 ?_ | refine w3 ?_ | refine w4 ?_ | refine w5 ?_); intro K hK; simp (maxSteps := 4000000) +contextual [hj, hp]; (try (refine finD rfl ?_; simp)); refine hK _ ?_; clear hK K) | ((first | refine w6 rfl ?_ ?_ | refine w7 rfl ?_ ?_) <;> (intro h; replace hp := And.intro h hp; clear h; try simp only [z0, z1, z2, z3, z4, z5, z6, z7, z8, z9, z10, z11, z12] at hp)) | refine w8 ?_ | refine w9 ?_ | refine w10 ?_ | refine w11 ?_ | refine w12 ?_ | refine w13 ?_ | refine w14 ?_ | refine w15 ?_ | refine w16 ?_ | refine w17 ?_ | refine w18 ?_ | refine w19 ?_ | refine w20 ?_ | refine w21 (by decide) ?_ | refine hleave .ret _ (by simp) ?_ | refine hleave (.exit _) _ (by simp) ?_ | refine w22 ?_
  exact hnext _ (G3, j + 1) (by simp [hw]) hr (by simp only; omega)
 | done =>
  repeat' first | refine w0 ?_ | refine w1 ?_ | ((first | refine w2 ?_ | refine w3 ?_ | refine w4 ?_ | refine w5 ?_); intro K hK; simp (maxSteps := 4000000) +contextual [hp]; (try (refine finD rfl ?_; simp)); refine hK _ ?_; clear hK K) | ((first | refine w6 rfl ?_ ?_ | refine w7 rfl ?_ ?_) <;> (intro h; replace hp := And.intro h hp; clear h; try simp only [z0, z1, z2, z3, z4, z5, z6, z7, z8, z9, z10, z11, z12] at hp)) | refine w8 ?_ | refine w9 ?_ | refine w10 ?_ | refine w11 ?_ | refine w12 ?_ | refine w13 ?_ | refine w14 ?_ | refine w15 ?_ | refine w16 ?_ | refine w17 ?_ | refine w18 ?_ | refine w19 ?_ | refine w20 ?_ | refine w21 (by decide) ?_ | refine hleave .ret _ (by simp) ?_ | refine hleave (.exit _) _ (by simp) ?_ | refine w22 ?_
  refine c_loopI (fun (q : GS × Nat) => (⟨[(0, gR), (75, .slice 2 (E0.map prV)), (76, nV E0.length), (77, nV q.2)], gIn q.1⟩ : St)) (fun q => QRun K E0 q.2 q.1 G') (fun q => E0.length - q.2) (G1, 0) (by simp) h2 (fun q K2 hr hnext2 hleave => ?_)
  obtain ⟨G3, j⟩ := q
  simp only at hr hnext2 ⊢
  cases hr with
  | @step _ _ G4 _ r hj he hr =>
   have hE1 : G.E.length ≤ 1000000 := hEb
   have hw : IntKind.wrap .i64 ((j : Int) + 1) = ((j + 1 : Nat) : Int) := wrapN (by omega) (by omega)
   repeat' first | refine w0 ?_ | refine w1 ?_ | ((first | refine w2 ?_ | refine w3 ?_ | refine w4 ?_ | refine w5 ?_); intro K hK; simp (maxSteps := 4000000) +contextual [hj, hp]; (try (refine finD rfl ?_; simp)); refine hK _ ?_; clear hK K) | ((first | refine w6 rfl ?_ ?_ | refine w7 rfl ?_ ?_) <;> (intro h; replace hp := And.intro h hp; clear h; try simp only [z0, z1, z2, z3, z4, z5, z6, z7, z8, z9, z10, z11, z12] at hp)) | refine w8 ?_ | refine w9 ?_ | refine w10 ?_ | refine w11 ?_ | refine w12 ?_ | refine w13 ?_ | refine w14 ?_ | refine w15 ?_ | refine w16 ?_ | refine w17 ?_ | refine w18 ?_ | refine w19 ?_ | refine w20 ?_ | refine w21 (by decide) ?_ | refine hleave .ret _ (by simp) ?_ | refine hleave (.exit _) _ (by simp) ?_ | refine w22 ?_
   refine c_reg fun K hK => ?_
   simp (maxSteps := 4000000) +contextual [hj, hp]
   refine callK (he) (by simp) ?_
   simp (maxSteps := 4000000) +contextual [hj, hp]
   refine hK _ ?_
   clear hK K
   repeat' first | refine w0 ?_ | refine w1 ?_ | ((first | refine w2 ?_ | refine w3 ?_ | refine w4 ?_ | refine w5 ?_); intro K hK; simp (maxSteps := 4000000) +contextual [hj, hp]; (try (refine finD rfl ?_; simp)); refine hK _ ?_; clear hK K) | ((first | refine w6 rfl ?_ ?_ | refine w7 rfl ?_ ?_) <;> (intro h; replace hp := And.intro h hp; clear h; try simp only [z0, z1, z2, z3, z4, z5, z6, z7, z8, z9, z10, z11, z12] at hp)) | refine w8 ?_ | refine w9 ?_ | refine w10 ?_ | refine w11 ?_ | refine w12 ?_ | refine w13 ?_ | refine w14 ?_ | refine w15 ?_ | refine w16 ?_ | refine w17 ?_ | refine w18 ?_ | refine w19 ?_ | refine w20 ?_ | refine w21 (by decide) ?_ | refine hleave .ret _ (by simp) ?_ | refine hleave (.exit _) _ (by simp) ?_ | refine w22 ?_
   exact hnext2 _ (G4, j + 1) (by simp [hw]) hr (by simp only; omega)
  | done =>
   repeat' first | refine w0 ?_ | refine w1 ?_ | ((first | refine w2 ?_ | refine w3 ?_ | refine w4 ?_ | refine w5 ?_); intro K hK; simp (maxSteps := 4000000) +contextual [hp]; (try (refine finD rfl ?_; simp)); refine hK _ ?_; clear hK K) | ((first | refine w6 rfl ?_ ?_ | refine w7 rfl ?_ ?_) <;> (intro h; replace hp := And.intro h hp; clear h; try simp only [z0, z1, z2, z3, z4, z5, z6, z7, z8, z9, z10, z11, z12] at hp)) | refine w8 ?_ | refine w9 ?_ | refine w10 ?_ | refine w11 ?_ | refine w12 ?_ | refine w13 ?_ | refine w14 ?_ | refine w15 ?_ | refine w16 ?_ | refine w17 ?_ | refine w18 ?_ | refine w19 ?_ | refine w20 ?_ | refine w21 (by decide) ?_ | refine hleave .ret _ (by simp) ?_ | refine hleave (.exit _) _ (by simp) ?_ | refine w22 ?_
   all_goals simp [EndA]
end Go.Proofs.YtjabgfnljbnmmaaDoor
