/- A part of the proof of a law of this seat: no condition. -/
import Derived.Test.YtjabgfnljbnmmaaDoorE4
import Derived.Test.YtjabgfnljbnmmaaDoorE5
set_option linter.unusedSimpArgs false
set_option linter.unusedVariables false
set_option maxRecDepth 20000
set_option maxHeartbeats 40000000
namespace Go.Proofs.YtjabgfnljbnmmaaDoor
open Go.Ax
attribute [-simp] List.map_set
@[simp] theorem idx_cons0 (v : V) (l : List V) : idx (v :: l) 0 = some v := rfl
/-- Which class goes into which, and from which node on the edges are turned. -/
def orient (C : List (List Nat)) (x y : Nat) (p : Pr) : Nat × Nat × Nat × Nat :=
 if (nth C y).length < (nth C x).length then (y, x, p.b, p.a) else (x, y, p.a, p.b)
/-- The graph with x's class in y's, ahead of what follows by arguments. -/
def joinG (G : GS) (x y a b : Nat) (why : Int) (D1 : List Ed) : GS :=
 { G with D := D1.set a ⟨b, why, true⟩, P := G.P.set x y, C := (G.C.set y (nth G.C y ++ nth G.C x)).set x [] }
def movedG (G : GS) (x y : Nat) (ρ : Nat → Nat) : GS :=
 { G with S := (mvAll G.N ρ (nth G.U x) G.S).1, U := (G.U.set y (nth G.U y ++ nth G.U x)).set x [] }
inductive MRun : GS → List Pr → GS → Nat → Prop
 | nil (G) : MRun G [] G 0
 | same {G p r todo G' n k1 k2} (ha : Rt G.P p.a r k1) (hb : Rt G.P p.b r k2) (h : MRun G todo G' n) : MRun G (p :: todo) G' (n + 1)
 | join {G p x y x' y' a b todo G' n k1 k2 kt D1 ρ} (ha : Rt G.P p.a x k1) (hb : Rt G.P p.b y k2) (hne : x ≠ y) (hxC : x < G.C.length) (hyC : y < G.C.length) (hxU : x < G.U.length) (hyU : y < G.U.length) (hxP : x < G.P.length) (hyP : y < G.P.length)
   (ho : orient G.C x y p = (x', y', a, b)) (haD : a < G.D.length) (ht : Turn G.D ed0 a D1 kt)
   (hu : ∀ u ∈ nth G.U x', NOk (joinG G x' y' a b p.why D1) ρ u ∧ ∃ k, Rt (joinG G x' y' a b p.why D1).P u (ρ u) k)
   (hS : ∀ q ∈ G.S, ∃ k, Rt (joinG G x' y' a b p.why D1).P q.2 (ρ q.2) k) (hl : ∀ z, (nth G.U z).length ≤ 100000000) (hc : ∀ z, (nth G.C z).length ≤ 100000000)
   (hcap : todo.length ≤ 1000000000000)
   (h : MRun (movedG (joinG G x' y' a b p.why D1) x' y' ρ) (todo ++ (mvAll G.N ρ (nth G.U x') G.S).2) G' n) : MRun G (p :: todo) G' (n + 1)
theorem merge_ok {K} {G : GS} {todo : List Pr} {G' : GS} {n : Nat} (h : MRun G todo G' n) : Ok (bs K) 39 [gR, .own 3 (todo.map pairV)] (gObs G) (.tup []) (gObs G') [] := by
 refine k39 ?_
 have hp : True := trivial
 repeat' first | refine w0 ?_ | refine w1 ?_ | ((first | refine w2 ?_ | refine w3 ?_ | refine w4 ?_ | refine w5 ?_); intro K hK; simp (maxSteps := 4000000) +contextual [hp]; (try (refine finD rfl ?_; simp)); refine hK _ ?_; clear hK K) | ((first | refine w6 rfl ?_ ?_ | refine w7 rfl ?_ ?_) <;> (intro h; replace hp := And.intro h hp; clear h; try simp only [z0, z1, z2, z3, z4, z5, z6, z7, z8, z9, z10, z11, z12] at hp)) | refine w8 ?_ | refine w9 ?_ | refine w10 ?_ | refine w11 ?_ | refine w12 ?_ | refine w13 ?_ | refine w14 ?_ | refine w15 ?_ | refine w16 ?_ | refine w17 ?_ | refine w18 ?_ | refine w19 ?_ | refine w20 ?_ | refine w21 (by decide) ?_ | refine hleave .ret _ (by simp) ?_ | refine hleave (.exit _) _ (by simp) ?_ | refine w22 ?_
 refine c_loopI (fun (q : GS × List Pr × Nat) => (⟨[(0, gR), (1, .own 3 (q.2.1.map pairV))], gIn q.1⟩ : St)) (fun q => MRun q.1 q.2.1 G' q.2.2) (fun q => q.2.2) (G, todo, n) (by simp) h (fun q K' hn hnext hleave => ?_)
 obtain ⟨G, t, n⟩ := q
 simp only at hn hnext ⊢
 cases hn with
 | nil =>
  repeat' first | refine w0 ?_ | refine w1 ?_ | ((first | refine w2 ?_ | refine w3 ?_ | refine w4 ?_ | refine w5 ?_); intro K hK; simp (maxSteps := 4000000) +contextual [hp]; (try (refine finD rfl ?_; simp)); refine hK _ ?_; clear hK K) | ((first | refine w6 rfl ?_ ?_ | refine w7 rfl ?_ ?_) <;> (intro h; replace hp := And.intro h hp; clear h; try simp only [z0, z1, z2, z3, z4, z5, z6, z7, z8, z9, z10, z11, z12] at hp)) | refine w8 ?_ | refine w9 ?_ | refine w10 ?_ | refine w11 ?_ | refine w12 ?_ | refine w13 ?_ | refine w14 ?_ | refine w15 ?_ | refine w16 ?_ | refine w17 ?_ | refine w18 ?_ | refine w19 ?_ | refine w20 ?_ | refine w21 (by decide) ?_ | refine hleave .ret _ (by simp) ?_ | refine hleave (.exit _) _ (by simp) ?_ | refine w22 ?_
  simp [EndA]
 | @same _ p r todo _ n k1 k2 ha hb h =>
  have hl1 : 1 ≤ (todo.length : Int) + 1 := by omega
  repeat' first | refine w0 ?_ | refine w1 ?_ | ((first | refine w2 ?_ | refine w3 ?_ | refine w4 ?_ | refine w5 ?_); intro K hK; simp (maxSteps := 4000000) +contextual [hl1, hp]; (try (refine finD rfl ?_; simp)); refine hK _ ?_; clear hK K) | ((first | refine w6 rfl ?_ ?_ | refine w7 rfl ?_ ?_) <;> (intro h; replace hp := And.intro h hp; clear h; try simp only [z0, z1, z2, z3, z4, z5, z6, z7, z8, z9, z10, z11, z12] at hp)) | refine w8 ?_ | refine w9 ?_ | refine w10 ?_ | refine w11 ?_ | refine w12 ?_ | refine w13 ?_ | refine w14 ?_ | refine w15 ?_ | refine w16 ?_ | refine w17 ?_ | refine w18 ?_ | refine w19 ?_ | refine w20 ?_ | refine w21 (by decide) ?_ | refine hleave .ret _ (by simp) ?_ | refine hleave (.exit _) _ (by simp) ?_ | refine w22 ?_
  refine c_regD fun K hK => ?_
  simp (maxSteps := 4000000) +contextual [hl1, hp]
  refine callK (root_ok ha) (by simp) ?_
  simp (maxSteps := 4000000) +contextual [hl1, hp]
  refine callK (root_ok hb) (by simp) ?_
  simp (maxSteps := 4000000) +contextual [hl1, hp]
  refine finD rfl ?_
  simp
  refine hK _ ?_
  clear hK K
  repeat' first | refine w0 ?_ | refine w1 ?_ | ((first | refine w2 ?_ | refine w3 ?_ | refine w4 ?_ | refine w5 ?_); intro K hK; simp (maxSteps := 4000000) +contextual [hp]; (try (refine finD rfl ?_; simp)); refine hK _ ?_; clear hK K) | ((first | refine w6 rfl ?_ ?_ | refine w7 rfl ?_ ?_) <;> (intro h; replace hp := And.intro h hp; clear h; try simp only [z0, z1, z2, z3, z4, z5, z6, z7, z8, z9, z10, z11, z12] at hp)) | refine w8 ?_ | refine w9 ?_ | refine w10 ?_ | refine w11 ?_ | refine w12 ?_ | refine w13 ?_ | refine w14 ?_ | refine w15 ?_ | refine w16 ?_ | refine w17 ?_ | refine w18 ?_ | refine w19 ?_ | refine w20 ?_ | refine w21 (by decide) ?_ | refine hleave .ret _ (by simp) ?_ | refine hleave (.exit _) _ (by simp) ?_ | refine w22 ?_
  exact hnext _ (G, todo, n) (by simp) h (by simp)
 | @join _ p x y x' y' a b todo _ n k1 k2 kt D1 ρ ha hb hne hxC hyC hxU hyU hxP hyP ho haD htn hu hS hl hc hcap h =>
  obtain ⟨pa, pb, pw⟩ := p
  have hl1 : 1 ≤ (todo.length : Int) + 1 := by omega
  have hne2 : ¬ ((x : Nat) : Int) = ((y : Nat) : Int) := by omega
  simp only at ha hb h hu hS
  repeat' first | refine w0 ?_ | refine w1 ?_ | ((first | refine w2 ?_ | refine w3 ?_ | refine w4 ?_ | refine w5 ?_); intro K hK; simp (maxSteps := 4000000) +contextual [hl1, hp]; (try (refine finD rfl ?_; simp)); refine hK _ ?_; clear hK K) | ((first | refine w6 rfl ?_ ?_ | refine w7 rfl ?_ ?_) <;> (intro h; replace hp := And.intro h hp; clear h; try simp only [z0, z1, z2, z3, z4, z5, z6, z7, z8, z9, z10, z11, z12] at hp)) | refine w8 ?_ | refine w9 ?_ | refine w10 ?_ | refine w11 ?_ | refine w12 ?_ | refine w13 ?_ | refine w14 ?_ | refine w15 ?_ | refine w16 ?_ | refine w17 ?_ | refine w18 ?_ | refine w19 ?_ | refine w20 ?_ | refine w21 (by decide) ?_ | refine hleave .ret _ (by simp) ?_ | refine hleave (.exit _) _ (by simp) ?_ | refine w22 ?_
  refine c_regD fun K hK => ?_
  simp (maxSteps := 4000000) +contextual [hl1, hp]
  refine callK (root_ok ha) (by simp) ?_
  simp (maxSteps := 4000000) +contextual [hl1, hp]
  refine callK (root_ok hb) (by simp) ?_
  simp (maxSteps := 4000000) +contextual [hl1, hp]
  refine finD rfl ?_
  simp
  refine hK _ ?_
  clear hK K
  by_cases hlt : (nth G.C y).length < (nth G.C x).length
  ·have hlt2 : (((nth G.C y).length : Nat) : Int) < (((nth G.C x).length : Nat) : Int) := by omega
   repeat' first | refine w0 ?_ | refine w1 ?_ | ((first | refine w2 ?_ | refine w3 ?_ | refine w4 ?_ | refine w5 ?_); intro K hK; simp (maxSteps := 4000000) +contextual [hne, hne2, hxC, hyC, hlt, hlt2, hp]; (try (refine finD rfl ?_; simp)); refine hK _ ?_; clear hK K) | ((first | refine w6 rfl ?_ ?_ | refine w7 rfl ?_ ?_) <;> (intro h; replace hp := And.intro h hp; clear h; try simp only [z0, z1, z2, z3, z4, z5, z6, z7, z8, z9, z10, z11, z12] at hp)) | refine w8 ?_ | refine w9 ?_ | refine w10 ?_ | refine w11 ?_ | refine w12 ?_ | refine w13 ?_ | refine w14 ?_ | refine w15 ?_ | refine w16 ?_ | refine w17 ?_ | refine w18 ?_ | refine w19 ?_ | refine w20 ?_ | refine w21 (by decide) ?_ | refine hleave .ret _ (by simp) ?_ | refine hleave (.exit _) _ (by simp) ?_ | refine w22 ?_
   simp only [orient, if_pos hlt, Prod.mk.injEq] at ho
   obtain ⟨rfl, rfl, rfl, rfl⟩ := ho
   have hlenD := htn.len
   have haD1 : pb < D1.length := by rw [hlenD]; exact haD
   have haD3 : pb * 3 + 3 ≤ D1.length * 3 := by omega
   have hxC1 : y + 1 ≤ G.C.length := hyC
   have hyC1 : x + 1 ≤ G.C.length := hxC
   have hxP1 : y + 1 ≤ G.P.length := hyP
   have hyx : ¬ x = y := fun e => hne e
   have hcc : ((nth G.C x).length + (nth G.C y).length) * 8 ≤ 140737488355328 := by have := hc x; have := hc y; omega
   have hm := moved_ok (K := K) (G := joinG G y x pb pa pw D1) (x := y) (y := x) (ρ := ρ) hyU hxU (fun e => hne e.symm) hu hS (hl _) (hl _)
   simp only [gObs, joinG, List.length_set] at hm
   have hml := mvAll_len (N := G.N) (ρ := ρ) (S := G.S) (us := nth G.U y)
   have hcap2 : (todo.length + (mvAll G.N ρ (nth G.U y) G.S).2.length) * 24 ≤ 140737488355328 := by have := hl y; omega
   refine c_reg fun K hK => ?_
   simp (maxSteps := 4000000) +contextual [hp]
   refine callK (turn_ok htn) (by simp) ?_
   simp (maxSteps := 4000000) +contextual [hp]
   refine hK _ ?_
   clear hK K
   repeat' first | refine w0 ?_ | refine w1 ?_ | ((first | refine w2 ?_ | refine w3 ?_ | refine w4 ?_ | refine w5 ?_); intro K hK; simp (maxSteps := 4000000) +contextual [haD1, haD3, hyP, hxP1, hyC, hxC, hxC1, hyC1, hne, hyx, hcc, hp]; (try (refine finD rfl ?_; simp)); refine hK _ ?_; clear hK K) | ((first | refine w6 rfl ?_ ?_ | refine w7 rfl ?_ ?_) <;> (intro h; replace hp := And.intro h hp; clear h; try simp only [z0, z1, z2, z3, z4, z5, z6, z7, z8, z9, z10, z11, z12] at hp)) | refine w8 ?_ | refine w9 ?_ | refine w10 ?_ | refine w11 ?_ | refine w12 ?_ | refine w13 ?_ | refine w14 ?_ | refine w15 ?_ | refine w16 ?_ | refine w17 ?_ | refine w18 ?_ | refine w19 ?_ | refine w20 ?_ | refine w21 (by decide) ?_ | refine hleave .ret _ (by simp) ?_ | refine hleave (.exit _) _ (by simp) ?_ | refine w22 ?_
   refine c_reg fun K hK => ?_
   simp (maxSteps := 4000000) +contextual [hcap2, hp]
   refine callK (hm) (by simp) ?_
   simp (maxSteps := 4000000) +contextual [hcap2, hp]
   refine hK _ ?_
   clear hK K
   repeat' first | refine w0 ?_ | refine w1 ?_ | ((first | refine w2 ?_ | refine w3 ?_ | refine w4 ?_ | refine w5 ?_); intro K hK; simp (maxSteps := 4000000) +contextual [hp]; (try (refine finD rfl ?_; simp)); refine hK _ ?_; clear hK K) | ((first | refine w6 rfl ?_ ?_ | refine w7 rfl ?_ ?_) <;> (intro h; replace hp := And.intro h hp; clear h; try simp only [z0, z1, z2, z3, z4, z5, z6, z7, z8, z9, z10, z11, z12] at hp)) | refine w8 ?_ | refine w9 ?_ | refine w10 ?_ | refine w11 ?_ | refine w12 ?_ | refine w13 ?_ | refine w14 ?_ | refine w15 ?_ | refine w16 ?_ | refine w17 ?_ | refine w18 ?_ | refine w19 ?_ | refine w20 ?_ | refine w21 (by decide) ?_ | refine hleave .ret _ (by simp) ?_ | refine hleave (.exit _) _ (by simp) ?_ | refine w22 ?_
   all_goals exact hnext _ (movedG (joinG G y x pb pa pw D1) y x ρ, todo ++ (mvAll G.N ρ (nth G.U y) G.S).2, n) (by simp [movedG, joinG]) h (by simp)
  ·have hlt2 : ¬ (((nth G.C y).length : Nat) : Int) < (((nth G.C x).length : Nat) : Int) := by omega
   repeat' first | refine w0 ?_ | refine w1 ?_ | ((first | refine w2 ?_ | refine w3 ?_ | refine w4 ?_ | refine w5 ?_); intro K hK; simp (maxSteps := 4000000) +contextual [hne, hne2, hxC, hyC, hlt, hlt2, hp]; (try (refine finD rfl ?_; simp)); refine hK _ ?_; clear hK K) | ((first | refine w6 rfl ?_ ?_ | refine w7 rfl ?_ ?_) <;> (intro h; replace hp := And.intro h hp; clear h; try simp only [z0, z1, z2, z3, z4, z5, z6, z7, z8, z9, z10, z11, z12] at hp)) | refine w8 ?_ | refine w9 ?_ | refine w10 ?_ | refine w11 ?_ | refine w12 ?_ | refine w13 ?_ | refine w14 ?_ | refine w15 ?_ | refine w16 ?_ | refine w17 ?_ | refine w18 ?_ | refine w19 ?_ | refine w20 ?_ | refine w21 (by decide) ?_ | refine hleave .ret _ (by simp) ?_ | refine hleave (.exit _) _ (by simp) ?_ | refine w22 ?_
   simp only [orient, if_neg hlt, Prod.mk.injEq] at ho
   obtain ⟨rfl, rfl, rfl, rfl⟩ := ho
   have hlenD := htn.len
   have haD1 : pa < D1.length := by rw [hlenD]; exact haD
   have haD3 : pa * 3 + 3 ≤ D1.length * 3 := by omega
   have hxC1 : x + 1 ≤ G.C.length := hxC
   have hyC1 : y + 1 ≤ G.C.length := hyC
   have hxP1 : x + 1 ≤ G.P.length := hxP
   have hyx : ¬ y = x := fun e => hne e.symm
   have hcc : ((nth G.C y).length + (nth G.C x).length) * 8 ≤ 140737488355328 := by have := hc y; have := hc x; omega
   have hm := moved_ok (K := K) (G := joinG G x y pa pb pw D1) (x := x) (y := y) (ρ := ρ) hxU hyU hne hu hS (hl _) (hl _)
   simp only [gObs, joinG, List.length_set] at hm
   have hml := mvAll_len (N := G.N) (ρ := ρ) (S := G.S) (us := nth G.U x)
   have hcap2 : (todo.length + (mvAll G.N ρ (nth G.U x) G.S).2.length) * 24 ≤ 140737488355328 := by have := hl x; omega
   refine c_reg fun K hK => ?_
   simp (maxSteps := 4000000) +contextual [hp]
   refine callK (turn_ok htn) (by simp) ?_
   simp (maxSteps := 4000000) +contextual [hp]
   refine hK _ ?_
   clear hK K
   repeat' first | refine w0 ?_ | refine w1 ?_ | ((first | refine w2 ?_ | refine w3 ?_ | refine w4 ?_ | refine w5 ?_); intro K hK; simp (maxSteps := 4000000) +contextual [haD1, haD3, hxP, hxP1, hxC, hyC, hxC1, hyC1, hne, hyx, hcc, hp]; (try (refine finD rfl ?_; simp)); refine hK _ ?_; clear hK K) | ((first | refine w6 rfl ?_ ?_ | refine w7 rfl ?_ ?_) <;> (intro h; replace hp := And.intro h hp; clear h; try simp only [z0, z1, z2, z3, z4, z5, z6, z7, z8, z9, z10, z11, z12] at hp)) | refine w8 ?_ | refine w9 ?_ | refine w10 ?_ | refine w11 ?_ | refine w12 ?_ | refine w13 ?_ | refine w14 ?_ | refine w15 ?_ | refine w16 ?_ | refine w17 ?_ | refine w18 ?_ | refine w19 ?_ | refine w20 ?_ | refine w21 (by decide) ?_ | refine hleave .ret _ (by simp) ?_ | refine hleave (.exit _) _ (by simp) ?_ | refine w22 ?_
   refine c_reg fun K hK => ?_
   simp (maxSteps := 4000000) +contextual [hcap2, hp]
   refine callK (hm) (by simp) ?_
   simp (maxSteps := 4000000) +contextual [hcap2, hp]
   refine hK _ ?_
   clear hK K
   repeat' first | refine w0 ?_ | refine w1 ?_ | ((first | refine w2 ?_ | refine w3 ?_ | refine w4 ?_ | refine w5 ?_); intro K hK; simp (maxSteps := 4000000) +contextual [hp]; (try (refine finD rfl ?_; simp)); refine hK _ ?_; clear hK K) | ((first | refine w6 rfl ?_ ?_ | refine w7 rfl ?_ ?_) <;> (intro h; replace hp := And.intro h hp; clear h; try simp only [z0, z1, z2, z3, z4, z5, z6, z7, z8, z9, z10, z11, z12] at hp)) | refine w8 ?_ | refine w9 ?_ | refine w10 ?_ | refine w11 ?_ | refine w12 ?_ | refine w13 ?_ | refine w14 ?_ | refine w15 ?_ | refine w16 ?_ | refine w17 ?_ | refine w18 ?_ | refine w19 ?_ | refine w20 ?_ | refine w21 (by decide) ?_ | refine hleave .ret _ (by simp) ?_ | refine hleave (.exit _) _ (by simp) ?_ | refine w22 ?_
   all_goals exact hnext _ (movedG (joinG G x y pa pb pw D1) x y ρ, todo ++ (mvAll G.N ρ (nth G.U x) G.S).2, n) (by simp [movedG, joinG]) h (by simp)
end Go.Proofs.YtjabgfnljbnmmaaDoor
