/- A part of the proof of a law of this seat: no condition. -/
import Derived.Test.YtjabgfnljbnmmaaDoorE17
set_option linter.unusedSimpArgs false
set_option linter.unusedVariables false
set_option maxRecDepth 20000
set_option maxHeartbeats 40000000
namespace Go.Proofs.YtjabgfnljbnmmaaDoor
open Go.Ax
attribute [-simp] List.map_set
theorem rnode_new {B : Heap} {N : List Nd} {E : List (Nat × Nat)} {f : List UInt8} {xs : List Nat} (hl : xs.length ≤ 1000000) (hx : ∀ x ∈ xs, x < N.length) (hN : N.length < 16384) (hal : ∀ x ∈ N, x.a.length ≤ 1000000)
  (h : ∀ x ∈ N, x ≠ ⟨f, xs⟩) : Ok B 42 [wV N E, .str f, .slice 1 (xs.map nV)] [] (.tup [wV (N ++ [⟨f, xs⟩]) E, nV N.length, nV 0]) [] [] := by
 refine k42 ?_
 have hp : True := trivial
 repeat' first | refine w0 ?_ | refine w1 ?_ | ((first | refine w2 ?_ | refine w3 ?_ | refine w4 ?_ | refine w5 ?_); intro K hK; simp (maxSteps := 4000000) +contextual [hp]; (try (refine finD rfl ?_; simp)); refine hK _ ?_; clear hK K) | ((first | refine w6 rfl ?_ ?_ | refine w7 rfl ?_ ?_) <;> (intro h; replace hp := And.intro h hp; clear h; try simp only [z0, z1, z2, z3, z4, z5, z6, z7, z8, z9, z10, z11, z12] at hp)) | refine w8 ?_ | refine w9 ?_ | refine w10 ?_ | refine w11 ?_ | refine w12 ?_ | refine w13 ?_ | refine w14 ?_ | refine w15 ?_ | refine w16 ?_ | refine w17 ?_ | refine w18 ?_ | refine w19 ?_ | refine w20 ?_ | refine w21 (by decide) ?_ | refine hleave .ret _ (by simp) ?_ | refine hleave (.exit _) _ (by simp) ?_ | refine w22 ?_
 refine c_loopI (fun (j : Nat) => (⟨[(1, .str f), (2, .slice 1 (xs.map nV)), (3, .ref (.loc 3) 0), (6, .ref (.loc 6) 0), (9, nV j)], [(.loc 3, .cells false [.slice 2 (N.map ndV), .slice 2 (E.map prV)]), (.loc 6, .cells false [.own 2 [], .own 2 []])]⟩ : St)) (fun j => j ≤ xs.length) (fun j => xs.length - j) 0 (by simp) (by simp) (fun j K' hj hnext hleave => ?_)
 by_cases hjl : j < xs.length
 ·have hw : IntKind.wrap .i64 ((j : Int) + 1) = ((j + 1 : Nat) : Int) := wrapN (by omega) (by omega)
  have h0 := hx _ (nth_mem hjl)
  have hx1 : ¬ ((nth xs j : Nat) : Int) < 0 := by omega
  have hx2 : ¬ (N.length : Int) ≤ ((nth xs j : Nat) : Int) := by omega
  have hx3 : ¬ N.length ≤ nth xs j := by omega
  repeat' first | refine w0 ?_ | refine w1 ?_ | ((first | refine w2 ?_ | refine w3 ?_ | refine w4 ?_ | refine w5 ?_); intro K hK; simp (maxSteps := 4000000) +contextual [hjl, hx1, hx2, hx3, hp]; (try (refine finD rfl ?_; simp)); refine hK _ ?_; clear hK K) | ((first | refine w6 rfl ?_ ?_ | refine w7 rfl ?_ ?_) <;> (intro h; replace hp := And.intro h hp; clear h; try simp only [z0, z1, z2, z3, z4, z5, z6, z7, z8, z9, z10, z11, z12] at hp)) | refine w8 ?_ | refine w9 ?_ | refine w10 ?_ | refine w11 ?_ | refine w12 ?_ | refine w13 ?_ | refine w14 ?_ | refine w15 ?_ | refine w16 ?_ | refine w17 ?_ | refine w18 ?_ | refine w19 ?_ | refine w20 ?_ | refine w21 (by decide) ?_ | refine hleave .ret _ (by simp) ?_ | refine hleave (.exit _) _ (by simp) ?_ | refine w22 ?_
  refine hnext _ (j + 1) (by simp [hw]) hjl (by omega)
 ·have hje : j = xs.length := by omega
  subst hje
  repeat' first | refine w0 ?_ | refine w1 ?_ | ((first | refine w2 ?_ | refine w3 ?_ | refine w4 ?_ | refine w5 ?_); intro K hK; simp (maxSteps := 4000000) +contextual [hp]; (try (refine finD rfl ?_; simp)); refine hK _ ?_; clear hK K) | ((first | refine w6 rfl ?_ ?_ | refine w7 rfl ?_ ?_) <;> (intro h; replace hp := And.intro h hp; clear h; try simp only [z0, z1, z2, z3, z4, z5, z6, z7, z8, z9, z10, z11, z12] at hp)) | refine w8 ?_ | refine w9 ?_ | refine w10 ?_ | refine w11 ?_ | refine w12 ?_ | refine w13 ?_ | refine w14 ?_ | refine w15 ?_ | refine w16 ?_ | refine w17 ?_ | refine w18 ?_ | refine w19 ?_ | refine w20 ?_ | refine w21 (by decide) ?_ | refine hleave .ret _ (by simp) ?_ | refine hleave (.exit _) _ (by simp) ?_ | refine w22 ?_
  refine c_loopI (fun (j : Nat) => (⟨[(1, .str f), (2, .slice 1 (xs.map nV)), (3, .ref (.loc 3) 0), (6, .ref (.loc 6) 0), (10, nV j)], [(.loc 3, .cells false [.slice 2 (N.map ndV), .slice 2 (E.map prV)]), (.loc 6, .cells false [.own 2 [], .own 2 []])]⟩ : St)) (fun j => j ≤ N.length) (fun j => N.length - j) 0 (by simp) (by simp) (fun j K2 hj hnext hleave => ?_)
  by_cases hjn : j < N.length
  ·have hw : IntKind.wrap .i64 ((j : Int) + 1) = ((j + 1 : Nat) : Int) := wrapN (by omega) (by omega)
   have hne := h _ (nth_mem hjn)
   by_cases hf : (nth N j).f = f
   ·have hna : ¬ (nth N j).a = xs := fun e => hne (by cases hh : nth N j; rw [hh] at hf e; simp only at hf e; rw [hf, e])
    have hak := alike_ok (B := B) (xs := (nth N j).a) (ys := xs) (hal _ (nth_mem hjn)) hl
    rw [decide_eq_false hna] at hak
    repeat' first | refine w0 ?_ | refine w1 ?_ | ((first | refine w2 ?_ | refine w3 ?_ | refine w4 ?_ | refine w5 ?_); intro K hK; simp (maxSteps := 4000000) +contextual [hjn, hf, hp]; (try (refine finD rfl ?_; simp)); refine hK _ ?_; clear hK K) | ((first | refine w6 rfl ?_ ?_ | refine w7 rfl ?_ ?_) <;> (intro h; replace hp := And.intro h hp; clear h; try simp only [z0, z1, z2, z3, z4, z5, z6, z7, z8, z9, z10, z11, z12] at hp)) | refine w8 ?_ | refine w9 ?_ | refine w10 ?_ | refine w11 ?_ | refine w12 ?_ | refine w13 ?_ | refine w14 ?_ | refine w15 ?_ | refine w16 ?_ | refine w17 ?_ | refine w18 ?_ | refine w19 ?_ | refine w20 ?_ | refine w21 (by decide) ?_ | refine hleave .ret _ (by simp) ?_ | refine hleave (.exit _) _ (by simp) ?_ | refine w22 ?_
    refine c_reg fun K hK => ?_
    simp (maxSteps := 4000000) +contextual [hjn, hf, hp]
    refine callK (hak) (by simp) ?_
    simp (maxSteps := 4000000) +contextual [hjn, hf, hp]
    refine hK _ ?_
    clear hK K
    repeat' first | refine w0 ?_ | refine w1 ?_ | ((first | refine w2 ?_ | refine w3 ?_ | refine w4 ?_ | refine w5 ?_); intro K hK; simp (maxSteps := 4000000) +contextual [hjn, hf, hp]; (try (refine finD rfl ?_; simp)); refine hK _ ?_; clear hK K) | ((first | refine w6 rfl ?_ ?_ | refine w7 rfl ?_ ?_) <;> (intro h; replace hp := And.intro h hp; clear h; try simp only [z0, z1, z2, z3, z4, z5, z6, z7, z8, z9, z10, z11, z12] at hp)) | refine w8 ?_ | refine w9 ?_ | refine w10 ?_ | refine w11 ?_ | refine w12 ?_ | refine w13 ?_ | refine w14 ?_ | refine w15 ?_ | refine w16 ?_ | refine w17 ?_ | refine w18 ?_ | refine w19 ?_ | refine w20 ?_ | refine w21 (by decide) ?_ | refine hleave .ret _ (by simp) ?_ | refine hleave (.exit _) _ (by simp) ?_ | refine w22 ?_
    all_goals exact hnext _ (j + 1) (by simp [hw]) hjn (by omega)
   ·skip
    repeat' first | refine w0 ?_ | refine w1 ?_ | ((first | refine w2 ?_ | refine w3 ?_ | refine w4 ?_ | refine w5 ?_); intro K hK; simp (maxSteps := 4000000) +contextual [hjn, hf, hp]; (try (refine finD rfl ?_; simp)); refine hK _ ?_; clear hK K) | ((first | refine w6 rfl ?_ ?_ | refine w7 rfl ?_ ?_) <;> (intro h; replace hp := And.intro h hp; clear h; try simp only [z0, z1, z2, z3, z4, z5, z6, z7, z8, z9, z10, z11, z12] at hp)) | refine w8 ?_ | refine w9 ?_ | refine w10 ?_ | refine w11 ?_ | refine w12 ?_ | refine w13 ?_ | refine w14 ?_ | refine w15 ?_ | refine w16 ?_ | refine w17 ?_ | refine w18 ?_ | refine w19 ?_ | refine w20 ?_ | refine w21 (by decide) ?_ | refine hleave .ret _ (by simp) ?_ | refine hleave (.exit _) _ (by simp) ?_ | refine w22 ?_
    all_goals exact hnext _ (j + 1) (by simp [hw]) hjn (by omega)
  ·have hje : j = N.length := by omega
   subst hje
   have hN1 : ¬ 16384 ≤ N.length := by omega
   have hN2 : ¬ (16384 : Int) ≤ (N.length : Int) := by omega
   have hN3 : (N.length + 1) * 40 ≤ 140737488355328 := by omega
   have hN4 : N.length * 40 ≤ 140737488355328 := by omega
   have hN5 : xs.length * 8 ≤ 140737488355328 := by omega
   repeat' first | refine w0 ?_ | refine w1 ?_ | ((first | refine w2 ?_ | refine w3 ?_ | refine w4 ?_ | refine w5 ?_); intro K hK; simp (maxSteps := 4000000) +contextual [hN1, hN2, hN3, hN4, hN5, hp]; (try (refine finD rfl ?_; simp)); refine hK _ ?_; clear hK K) | ((first | refine w6 rfl ?_ ?_ | refine w7 rfl ?_ ?_) <;> (intro h; replace hp := And.intro h hp; clear h; try simp only [z0, z1, z2, z3, z4, z5, z6, z7, z8, z9, z10, z11, z12] at hp)) | refine w8 ?_ | refine w9 ?_ | refine w10 ?_ | refine w11 ?_ | refine w12 ?_ | refine w13 ?_ | refine w14 ?_ | refine w15 ?_ | refine w16 ?_ | refine w17 ?_ | refine w18 ?_ | refine w19 ?_ | refine w20 ?_ | refine w21 (by decide) ?_ | refine hleave .ret _ (by simp) ?_ | refine hleave (.exit _) _ (by simp) ?_ | refine w22 ?_
   all_goals simp [EndA]
   all_goals exact wrapN rfl (by omega)
theorem rnode_old {B : Heap} {N : List Nd} {E : List (Nat × Nat)} {f : List UInt8} {xs : List Nat} {n : Nat} (hl : xs.length ≤ 1000000) (hx : ∀ x ∈ xs, x < N.length) (hN : N.length ≤ 1000000) (hal : ∀ x ∈ N, x.a.length ≤ 1000000)
  (hn : n < N.length) (he : nth N n = ⟨f, xs⟩) (h : ∀ j, j < n → nth N j ≠ ⟨f, xs⟩) : Ok B 42 [wV N E, .str f, .slice 1 (xs.map nV)] [] (.tup [wV N E, nV n, nV 0]) [] [] := by
 refine k42 ?_
 have hp : True := trivial
 repeat' first | refine w0 ?_ | refine w1 ?_ | ((first | refine w2 ?_ | refine w3 ?_ | refine w4 ?_ | refine w5 ?_); intro K hK; simp (maxSteps := 4000000) +contextual [hp]; (try (refine finD rfl ?_; simp)); refine hK _ ?_; clear hK K) | ((first | refine w6 rfl ?_ ?_ | refine w7 rfl ?_ ?_) <;> (intro h; replace hp := And.intro h hp; clear h; try simp only [z0, z1, z2, z3, z4, z5, z6, z7, z8, z9, z10, z11, z12] at hp)) | refine w8 ?_ | refine w9 ?_ | refine w10 ?_ | refine w11 ?_ | refine w12 ?_ | refine w13 ?_ | refine w14 ?_ | refine w15 ?_ | refine w16 ?_ | refine w17 ?_ | refine w18 ?_ | refine w19 ?_ | refine w20 ?_ | refine w21 (by decide) ?_ | refine hleave .ret _ (by simp) ?_ | refine hleave (.exit _) _ (by simp) ?_ | refine w22 ?_
 refine c_loopI (fun (j : Nat) => (⟨[(1, .str f), (2, .slice 1 (xs.map nV)), (3, .ref (.loc 3) 0), (6, .ref (.loc 6) 0), (9, nV j)], [(.loc 3, .cells false [.slice 2 (N.map ndV), .slice 2 (E.map prV)]), (.loc 6, .cells false [.own 2 [], .own 2 []])]⟩ : St)) (fun j => j ≤ xs.length) (fun j => xs.length - j) 0 (by simp) (by simp) (fun j K' hj hnext hleave => ?_)
 by_cases hjl : j < xs.length
 ·have hw : IntKind.wrap .i64 ((j : Int) + 1) = ((j + 1 : Nat) : Int) := wrapN (by omega) (by omega)
  have h0 := hx _ (nth_mem hjl)
  have hx1 : ¬ ((nth xs j : Nat) : Int) < 0 := by omega
  have hx2 : ¬ (N.length : Int) ≤ ((nth xs j : Nat) : Int) := by omega
  have hx3 : ¬ N.length ≤ nth xs j := by omega
  repeat' first | refine w0 ?_ | refine w1 ?_ | ((first | refine w2 ?_ | refine w3 ?_ | refine w4 ?_ | refine w5 ?_); intro K hK; simp (maxSteps := 4000000) +contextual [hjl, hx1, hx2, hx3, hp]; (try (refine finD rfl ?_; simp)); refine hK _ ?_; clear hK K) | ((first | refine w6 rfl ?_ ?_ | refine w7 rfl ?_ ?_) <;> (intro h; replace hp := And.intro h hp; clear h; try simp only [z0, z1, z2, z3, z4, z5, z6, z7, z8, z9, z10, z11, z12] at hp)) | refine w8 ?_ | refine w9 ?_ | refine w10 ?_ | refine w11 ?_ | refine w12 ?_ | refine w13 ?_ | refine w14 ?_ | refine w15 ?_ | refine w16 ?_ | refine w17 ?_ | refine w18 ?_ | refine w19 ?_ | refine w20 ?_ | refine w21 (by decide) ?_ | refine hleave .ret _ (by simp) ?_ | refine hleave (.exit _) _ (by simp) ?_ | refine w22 ?_
  refine hnext _ (j + 1) (by simp [hw]) hjl (by omega)
 ·have hje : j = xs.length := by omega
  subst hje
  repeat' first | refine w0 ?_ | refine w1 ?_ | ((first | refine w2 ?_ | refine w3 ?_ | refine w4 ?_ | refine w5 ?_); intro K hK; simp (maxSteps := 4000000) +contextual [hp]; (try (refine finD rfl ?_; simp)); refine hK _ ?_; clear hK K) | ((first | refine w6 rfl ?_ ?_ | refine w7 rfl ?_ ?_) <;> (intro h; replace hp := And.intro h hp; clear h; try simp only [z0, z1, z2, z3, z4, z5, z6, z7, z8, z9, z10, z11, z12] at hp)) | refine w8 ?_ | refine w9 ?_ | refine w10 ?_ | refine w11 ?_ | refine w12 ?_ | refine w13 ?_ | refine w14 ?_ | refine w15 ?_ | refine w16 ?_ | refine w17 ?_ | refine w18 ?_ | refine w19 ?_ | refine w20 ?_ | refine w21 (by decide) ?_ | refine hleave .ret _ (by simp) ?_ | refine hleave (.exit _) _ (by simp) ?_ | refine w22 ?_
  refine c_loopI (fun (j : Nat) => (⟨[(1, .str f), (2, .slice 1 (xs.map nV)), (3, .ref (.loc 3) 0), (6, .ref (.loc 6) 0), (10, nV j)], [(.loc 3, .cells false [.slice 2 (N.map ndV), .slice 2 (E.map prV)]), (.loc 6, .cells false [.own 2 [], .own 2 []])]⟩ : St)) (fun j => j ≤ n) (fun j => n - j) 0 (by simp) (by simp) (fun j K2 hj hnext hleave => ?_)
  have hjn : j < N.length := by omega
  have hw : IntKind.wrap .i64 ((j : Int) + 1) = ((j + 1 : Nat) : Int) := wrapN (by omega) (by omega)
  by_cases hje : j = n
  ·subst hje
   have hf : (nth N j).f = f := by rw [he]
   have hna : (nth N j).a = xs := by rw [he]
   have hak := alike_ok (B := B) (xs := (nth N j).a) (ys := xs) (hal _ (nth_mem hjn)) hl
   rw [decide_eq_true hna] at hak
   repeat' first | refine w0 ?_ | refine w1 ?_ | ((first | refine w2 ?_ | refine w3 ?_ | refine w4 ?_ | refine w5 ?_); intro K hK; simp (maxSteps := 4000000) +contextual [hjn, hf, hp]; (try (refine finD rfl ?_; simp)); refine hK _ ?_; clear hK K) | ((first | refine w6 rfl ?_ ?_ | refine w7 rfl ?_ ?_) <;> (intro h; replace hp := And.intro h hp; clear h; try simp only [z0, z1, z2, z3, z4, z5, z6, z7, z8, z9, z10, z11, z12] at hp)) | refine w8 ?_ | refine w9 ?_ | refine w10 ?_ | refine w11 ?_ | refine w12 ?_ | refine w13 ?_ | refine w14 ?_ | refine w15 ?_ | refine w16 ?_ | refine w17 ?_ | refine w18 ?_ | refine w19 ?_ | refine w20 ?_ | refine w21 (by decide) ?_ | refine hleave .ret _ (by simp) ?_ | refine hleave (.exit _) _ (by simp) ?_ | refine w22 ?_
   refine c_reg fun K hK => ?_
   simp (maxSteps := 4000000) +contextual [hjn, hf, hp]
   refine callK (hak) (by simp) ?_
   simp (maxSteps := 4000000) +contextual [hjn, hf, hp]
   refine hK _ ?_
   clear hK K
   repeat' first | refine w0 ?_ | refine w1 ?_ | ((first | refine w2 ?_ | refine w3 ?_ | refine w4 ?_ | refine w5 ?_); intro K hK; simp (maxSteps := 4000000) +contextual [hjn, hf, hp]; (try (refine finD rfl ?_; simp)); refine hK _ ?_; clear hK K) | ((first | refine w6 rfl ?_ ?_ | refine w7 rfl ?_ ?_) <;> (intro h; replace hp := And.intro h hp; clear h; try simp only [z0, z1, z2, z3, z4, z5, z6, z7, z8, z9, z10, z11, z12] at hp)) | refine w8 ?_ | refine w9 ?_ | refine w10 ?_ | refine w11 ?_ | refine w12 ?_ | refine w13 ?_ | refine w14 ?_ | refine w15 ?_ | refine w16 ?_ | refine w17 ?_ | refine w18 ?_ | refine w19 ?_ | refine w20 ?_ | refine w21 (by decide) ?_ | refine hleave .ret _ (by simp) ?_ | refine hleave (.exit _) _ (by simp) ?_ | refine w22 ?_
   all_goals simp [EndA]
  ·have hne := h j (by omega)
   by_cases hf : (nth N j).f = f
   ·have hna : ¬ (nth N j).a = xs := fun e => hne (by cases hh : nth N j; rw [hh] at hf e; simp only at hf e; rw [hf, e])
    have hak := alike_ok (B := B) (xs := (nth N j).a) (ys := xs) (hal _ (nth_mem hjn)) hl
    rw [decide_eq_false hna] at hak
    repeat' first | refine w0 ?_ | refine w1 ?_ | ((first | refine w2 ?_ | refine w3 ?_ | refine w4 ?_ | refine w5 ?_); intro K hK; simp (maxSteps := 4000000) +contextual [hjn, hf, hp]; (try (refine finD rfl ?_; simp)); refine hK _ ?_; clear hK K) | ((first | refine w6 rfl ?_ ?_ | refine w7 rfl ?_ ?_) <;> (intro h; replace hp := And.intro h hp; clear h; try simp only [z0, z1, z2, z3, z4, z5, z6, z7, z8, z9, z10, z11, z12] at hp)) | refine w8 ?_ | refine w9 ?_ | refine w10 ?_ | refine w11 ?_ | refine w12 ?_ | refine w13 ?_ | refine w14 ?_ | refine w15 ?_ | refine w16 ?_ | refine w17 ?_ | refine w18 ?_ | refine w19 ?_ | refine w20 ?_ | refine w21 (by decide) ?_ | refine hleave .ret _ (by simp) ?_ | refine hleave (.exit _) _ (by simp) ?_ | refine w22 ?_
    refine c_reg fun K hK => ?_
    simp (maxSteps := 4000000) +contextual [hjn, hf, hp]
    refine callK (hak) (by simp) ?_
    simp (maxSteps := 4000000) +contextual [hjn, hf, hp]
    refine hK _ ?_
    clear hK K
    repeat' first | refine w0 ?_ | refine w1 ?_ | ((first | refine w2 ?_ | refine w3 ?_ | refine w4 ?_ | refine w5 ?_); intro K hK; simp (maxSteps := 4000000) +contextual [hjn, hf, hp]; (try (refine finD rfl ?_; simp)); refine hK _ ?_; clear hK K) | ((first | refine w6 rfl ?_ ?_ | refine w7 rfl ?_ ?_) <;> (intro h; replace hp := And.intro h hp; clear h; try simp only [z0, z1, z2, z3, z4, z5, z6, z7, z8, z9, z10, z11, z12] at hp)) | refine w8 ?_ | refine w9 ?_ | refine w10 ?_ | refine w11 ?_ | refine w12 ?_ | refine w13 ?_ | refine w14 ?_ | refine w15 ?_ | refine w16 ?_ | refine w17 ?_ | refine w18 ?_ | refine w19 ?_ | refine w20 ?_ | refine w21 (by decide) ?_ | refine hleave .ret _ (by simp) ?_ | refine hleave (.exit _) _ (by simp) ?_ | refine w22 ?_
    all_goals exact hnext _ (j + 1) (by simp [hw]) (by omega) (by omega)
   ·skip
    repeat' first | refine w0 ?_ | refine w1 ?_ | ((first | refine w2 ?_ | refine w3 ?_ | refine w4 ?_ | refine w5 ?_); intro K hK; simp (maxSteps := 4000000) +contextual [hjn, hf, hp]; (try (refine finD rfl ?_; simp)); refine hK _ ?_; clear hK K) | ((first | refine w6 rfl ?_ ?_ | refine w7 rfl ?_ ?_) <;> (intro h; replace hp := And.intro h hp; clear h; try simp only [z0, z1, z2, z3, z4, z5, z6, z7, z8, z9, z10, z11, z12] at hp)) | refine w8 ?_ | refine w9 ?_ | refine w10 ?_ | refine w11 ?_ | refine w12 ?_ | refine w13 ?_ | refine w14 ?_ | refine w15 ?_ | refine w16 ?_ | refine w17 ?_ | refine w18 ?_ | refine w19 ?_ | refine w20 ?_ | refine w21 (by decide) ?_ | refine hleave .ret _ (by simp) ?_ | refine hleave (.exit _) _ (by simp) ?_ | refine w22 ?_
    all_goals exact hnext _ (j + 1) (by simp [hw]) (by omega) (by omega)
end Go.Proofs.YtjabgfnljbnmmaaDoor
