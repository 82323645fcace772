/- A part of the proof of a law of this seat: no condition. -/
import Derived.Test.YtjabgfnljbnmmaaDoorE16
set_option linter.unusedSimpArgs false
set_option linter.unusedVariables false
set_option maxRecDepth 20000
set_option maxHeartbeats 40000000
namespace Go.Proofs.YtjabgfnljbnmmaaDoor
open Go.Ax
attribute [-simp] List.map_set
abbrev CM := List Nat × Bool
def pStep (N : List Nd) (i : Nat) (s : CM) (k : Nat) : CM := if nth s.1 i ≠ nth s.1 k ∧ likeF N s.1 i k = true then (joinF s.1 i k, true) else s
def pK (N : List Nd) (i : Nat) (s : CM) (k : Nat) : CM := (List.range k).foldl (pStep N i) s
def pI (N : List Nd) (s : CM) (i : Nat) : CM := (List.range i).foldl (fun s i => pK N i s i) s
theorem pK_succ (N i s k) : pK N i s (k + 1) = pStep N i (pK N i s k) k := by simp [pK, List.range_succ]
theorem pI_succ (N s i) : pI N s (i + 1) = pK N i (pI N s i) i := by simp [pI, List.range_succ]
theorem joinF_len (c a b) : (joinF c a b).length = c.length := by simp [joinF]
theorem pK_len (N i s k) : (pK N i s k).1.length = s.1.length := by
 induction k with
 | zero => rfl
 | succ k ih =>
  rw [pK_succ]
  unfold pStep
  split
  ·rw [joinF_len, ih]
  ·exact ih
theorem pI_len (N s i) : (pI N s i).1.length = s.1.length := by
 induction i with
 | zero => rfl
 | succ i ih => rw [pI_succ, pK_len, ih]
def eqAll (c : List Nat) (E : List (Nat × Nat)) : List Nat := E.foldl (fun c e => joinF c e.1 e.2) c
theorem eqAll_len (c E) : (eqAll c E).length = c.length := by
 induction E generalizing c with
 | nil => rfl
 | cons e E ih => simp only [eqAll, List.foldl_cons]; have := ih (joinF c e.1 e.2); simp only [eqAll] at this; rw [this, joinF_len]
theorem eqAll_step {c : List Nat} {E : List (Nat × Nat)} {j : Nat} (h : j < E.length) : eqAll c (E.take (j + 1)) = joinF (eqAll c (E.take j)) (nth E j).1 (nth E j).2 := by
 simp [eqAll, take_nth h]
inductive CRun (N : List Nd) : List Nat → List Nat → Nat → Prop
 | done {c} (h : (pI N (c, false) N.length).2 = false) : CRun N c (pI N (c, false) N.length).1 0
 | again {c c' k} (h : (pI N (c, false) N.length).2 = true) (hr : CRun N (pI N (c, false) N.length).1 c' k) : CRun N c c' (k + 1)
def rangeZ (n j : Nat) : List Nat := List.range j ++ List.replicate (n - j) 0
theorem rangeZ_len {n j} (h : j ≤ n) : (rangeZ n j).length = n := by simp [rangeZ]; omega
theorem rangeZ_set {n j} (h : j < n) : (rangeZ n j).set j j = rangeZ n (j + 1) := by
 unfold rangeZ
 obtain ⟨k, hk⟩ : ∃ k, n - j = k + 1 := ⟨n - j - 1, by omega⟩
 rw [hk, show n - (j + 1) = k by omega, List.set_append_right _ _ (by simp), List.range_succ]
 simp [List.replicate_succ]
theorem closed_ok {B : Heap} {N : List Nd} {E : List (Nat × Nat)} {c : List Nat} {m : Nat} (hn : N.length ≤ 1000000) (hE : ∀ e ∈ E, e.1 < N.length ∧ e.2 < N.length) (hEl : E.length ≤ 1000000)
  (ha : ∀ i, i < N.length → (nth N i).a.length ≤ 1000000 ∧ ∀ a ∈ (nth N i).a, a < N.length) (h : CRun N (eqAll (List.range N.length) E) c m) :
  Ok B 15 [wV N E] [] (.sl 1 (.sub 0 0) N.length) [] [.cells true (c.map nV)] := by
 refine k15 ?_
 have hp : True := trivial
 have hN : (N.length : Int) * 8 ≤ 140737488355328 := by omega
 repeat' first | refine w0 ?_ | refine w1 ?_ | ((first | refine w2 ?_ | refine w3 ?_ | refine w4 ?_ | refine w5 ?_); intro K hK; simp (maxSteps := 4000000) +contextual [hN, hp]; (try (refine finD rfl ?_; simp)); refine hK _ ?_; clear hK K) | ((first | refine w6 rfl ?_ ?_ | refine w7 rfl ?_ ?_) <;> (intro h; replace hp := And.intro h hp; clear h; try simp only [z0, z1, z2, z3, z4, z5, z6, z7, z8, z9, z10, z11, z12] at hp)) | refine w8 ?_ | refine w9 ?_ | refine w10 ?_ | refine w11 ?_ | refine w12 ?_ | refine w13 ?_ | refine w14 ?_ | refine w15 ?_ | refine w16 ?_ | refine w17 ?_ | refine w18 ?_ | refine w19 ?_ | refine w20 ?_ | refine w21 (by decide) ?_ | refine hleave .ret _ (by simp) ?_ | refine hleave (.exit _) _ (by simp) ?_ | refine w22 ?_
 have e0 : List.replicate N.length (V.int .i64 0) = (rangeZ N.length 0).map nV := by simp [rangeZ]
 rw [e0]
 refine c_loopI (fun (j : Nat) => (⟨[(1, .ref (.loc 1) 0), (3, .sl 1 (.loc 12) N.length), (4, nV j)], [(.loc 1, .cells false [.slice 2 (N.map ndV), .slice 2 (E.map prV)]), (.loc 12, .cells true ((rangeZ N.length j).map nV))]⟩ : St)) (fun j => j ≤ N.length) (fun j => N.length - j) 0 (by simp) (by simp) (fun j K' hj hnext hleave => ?_)
 have hrl := rangeZ_len hj
 by_cases hjl : j < N.length
 ·have hw : IntKind.wrap .i64 ((j : Int) + 1) = ((j + 1 : Nat) : Int) := wrapN (by omega) (by omega)
  have hs := rangeZ_set hjl
  have hj1 : j + 1 ≤ N.length := hjl
  repeat' first | refine w0 ?_ | refine w1 ?_ | ((first | refine w2 ?_ | refine w3 ?_ | refine w4 ?_ | refine w5 ?_); intro K hK; simp (maxSteps := 4000000) +contextual [hjl, hrl, hs, hj1, hp]; (try (refine finD rfl ?_; simp)); refine hK _ ?_; clear hK K) | ((first | refine w6 rfl ?_ ?_ | refine w7 rfl ?_ ?_) <;> (intro h; replace hp := And.intro h hp; clear h; try simp only [z0, z1, z2, z3, z4, z5, z6, z7, z8, z9, z10, z11, z12] at hp)) | refine w8 ?_ | refine w9 ?_ | refine w10 ?_ | refine w11 ?_ | refine w12 ?_ | refine w13 ?_ | refine w14 ?_ | refine w15 ?_ | refine w16 ?_ | refine w17 ?_ | refine w18 ?_ | refine w19 ?_ | refine w20 ?_ | refine w21 (by decide) ?_ | refine hleave .ret _ (by simp) ?_ | refine hleave (.exit _) _ (by simp) ?_ | refine w22 ?_
  all_goals exact hnext _ (j + 1) (by simp [hw]) hjl (by omega)
 ·have hje : j = N.length := by omega
  subst hje
  have e1 : (rangeZ N.length N.length) = eqAll (List.range N.length) (E.take 0) := by simp [rangeZ, eqAll]
  rw [e1]
  repeat' first | refine w0 ?_ | refine w1 ?_ | ((first | refine w2 ?_ | refine w3 ?_ | refine w4 ?_ | refine w5 ?_); intro K hK; simp (maxSteps := 4000000) +contextual [hp]; (try (refine finD rfl ?_; simp)); refine hK _ ?_; clear hK K) | ((first | refine w6 rfl ?_ ?_ | refine w7 rfl ?_ ?_) <;> (intro h; replace hp := And.intro h hp; clear h; try simp only [z0, z1, z2, z3, z4, z5, z6, z7, z8, z9, z10, z11, z12] at hp)) | refine w8 ?_ | refine w9 ?_ | refine w10 ?_ | refine w11 ?_ | refine w12 ?_ | refine w13 ?_ | refine w14 ?_ | refine w15 ?_ | refine w16 ?_ | refine w17 ?_ | refine w18 ?_ | refine w19 ?_ | refine w20 ?_ | refine w21 (by decide) ?_ | refine hleave .ret _ (by simp) ?_ | refine hleave (.exit _) _ (by simp) ?_ | refine w22 ?_
  refine c_loopI (fun (j : Nat) => (⟨[(1, .ref (.loc 1) 0), (3, .sl 1 (.loc 12) N.length), (5, nV j)], [(.loc 1, .cells false [.slice 2 (N.map ndV), .slice 2 (E.map prV)]), (.loc 12, .cells true ((eqAll (List.range N.length) (E.take j)).map nV))]⟩ : St)) (fun j => j ≤ E.length) (fun j => E.length - j) 0 (by simp) (by simp) (fun j K2 hj hnext hleave => ?_)
  have hcl := eqAll_len (List.range N.length) (E.take j)
  rw [List.length_range] at hcl
  by_cases hjl : j < E.length
  ·have hw : IntKind.wrap .i64 ((j : Int) + 1) = ((j + 1 : Nat) : Int) := wrapN (by omega) (by omega)
   have hs := eqAll_step (c := List.range N.length) hjl
   have he := hE _ (nth_mem hjl)
   generalize eqAll (List.range N.length) (E.take j) = cc at *
   have hjo := join_ok (B := B) (c := cc) (a := (nth E j).1) (b := (nth E j).2) (by rw [hcl]; exact he.1) (by rw [hcl]; exact he.2) (by omega)
   rw [hcl] at hjo
   repeat' first | refine w0 ?_ | refine w1 ?_ | ((first | refine w2 ?_ | refine w3 ?_ | refine w4 ?_ | refine w5 ?_); intro K hK; simp (maxSteps := 4000000) +contextual [hjl, hp]; (try (refine finD rfl ?_; simp)); refine hK _ ?_; clear hK K) | ((first | refine w6 rfl ?_ ?_ | refine w7 rfl ?_ ?_) <;> (intro h; replace hp := And.intro h hp; clear h; try simp only [z0, z1, z2, z3, z4, z5, z6, z7, z8, z9, z10, z11, z12] at hp)) | refine w8 ?_ | refine w9 ?_ | refine w10 ?_ | refine w11 ?_ | refine w12 ?_ | refine w13 ?_ | refine w14 ?_ | refine w15 ?_ | refine w16 ?_ | refine w17 ?_ | refine w18 ?_ | refine w19 ?_ | refine w20 ?_ | refine w21 (by decide) ?_ | refine hleave .ret _ (by simp) ?_ | refine hleave (.exit _) _ (by simp) ?_ | refine w22 ?_
   refine c_regD fun K hK => ?_
   simp (maxSteps := 4000000) +contextual [hjl, hp]
   refine callK (hjo) (by simp) ?_
   simp (maxSteps := 4000000) +contextual [hjl, hp]
   refine finD rfl ?_
   simp
   refine hK _ ?_
   clear hK K
   repeat' first | refine w0 ?_ | refine w1 ?_ | ((first | refine w2 ?_ | refine w3 ?_ | refine w4 ?_ | refine w5 ?_); intro K hK; simp (maxSteps := 4000000) +contextual [hjl, hp]; (try (refine finD rfl ?_; simp)); refine hK _ ?_; clear hK K) | ((first | refine w6 rfl ?_ ?_ | refine w7 rfl ?_ ?_) <;> (intro h; replace hp := And.intro h hp; clear h; try simp only [z0, z1, z2, z3, z4, z5, z6, z7, z8, z9, z10, z11, z12] at hp)) | refine w8 ?_ | refine w9 ?_ | refine w10 ?_ | refine w11 ?_ | refine w12 ?_ | refine w13 ?_ | refine w14 ?_ | refine w15 ?_ | refine w16 ?_ | refine w17 ?_ | refine w18 ?_ | refine w19 ?_ | refine w20 ?_ | refine w21 (by decide) ?_ | refine hleave .ret _ (by simp) ?_ | refine hleave (.exit _) _ (by simp) ?_ | refine w22 ?_
   all_goals exact hnext _ (j + 1) (by simp [hw, hs]) hjl (by omega)
  ·have hje : j = E.length := by omega
   subst hje
   rw [List.take_length] at *
   generalize eqAll (List.range N.length) E = c0 at *
   repeat' first | refine w0 ?_ | refine w1 ?_ | ((first | refine w2 ?_ | refine w3 ?_ | refine w4 ?_ | refine w5 ?_); intro K hK; simp (maxSteps := 4000000) +contextual [hp]; (try (refine finD rfl ?_; simp)); refine hK _ ?_; clear hK K) | ((first | refine w6 rfl ?_ ?_ | refine w7 rfl ?_ ?_) <;> (intro h; replace hp := And.intro h hp; clear h; try simp only [z0, z1, z2, z3, z4, z5, z6, z7, z8, z9, z10, z11, z12] at hp)) | refine w8 ?_ | refine w9 ?_ | refine w10 ?_ | refine w11 ?_ | refine w12 ?_ | refine w13 ?_ | refine w14 ?_ | refine w15 ?_ | refine w16 ?_ | refine w17 ?_ | refine w18 ?_ | refine w19 ?_ | refine w20 ?_ | refine w21 (by decide) ?_ | refine hleave .ret _ (by simp) ?_ | refine hleave (.exit _) _ (by simp) ?_ | refine w22 ?_
   refine c_loopI (fun (q : List Nat × Bool × Nat) => (⟨[(1, .ref (.loc 1) 0), (3, .sl 1 (.loc 12) N.length), (6, .bool q.2.1)], [(.loc 1, .cells false [.slice 2 (N.map ndV), .slice 2 (E.map prV)]), (.loc 12, .cells true (q.1.map nV))]⟩ : St))
    (fun q => q.1.length = N.length ∧ (if q.2.1 = true then ∃ m, CRun N q.1 c m ∧ q.2.2 = m + 1 else q.1 = c)) (fun q => q.2.2) (c0, true, m + 1) (by simp) ⟨hcl, by simp; exact h⟩ (fun q K3 hq hnext hleave => ?_)
   obtain ⟨c1, more, mm⟩ := q
   simp only at hq hnext ⊢
   obtain ⟨hcl, hq⟩ := hq
   cases more with
   | false =>
    rw [if_neg (by simp)] at hq
    subst hq
    repeat' first | refine w0 ?_ | refine w1 ?_ | ((first | refine w2 ?_ | refine w3 ?_ | refine w4 ?_ | refine w5 ?_); intro K hK; simp (maxSteps := 4000000) +contextual [hp]; (try (refine finD rfl ?_; simp)); refine hK _ ?_; clear hK K) | ((first | refine w6 rfl ?_ ?_ | refine w7 rfl ?_ ?_) <;> (intro h; replace hp := And.intro h hp; clear h; try simp only [z0, z1, z2, z3, z4, z5, z6, z7, z8, z9, z10, z11, z12] at hp)) | refine w8 ?_ | refine w9 ?_ | refine w10 ?_ | refine w11 ?_ | refine w12 ?_ | refine w13 ?_ | refine w14 ?_ | refine w15 ?_ | refine w16 ?_ | refine w17 ?_ | refine w18 ?_ | refine w19 ?_ | refine w20 ?_ | refine w21 (by decide) ?_ | refine hleave .ret _ (by simp) ?_ | refine hleave (.exit _) _ (by simp) ?_ | refine w22 ?_
    all_goals simp [EndA]
   | true =>
    rw [if_pos rfl] at hq
    obtain ⟨m, hr, rfl⟩ := hq
    repeat' first | refine w0 ?_ | refine w1 ?_ | ((first | refine w2 ?_ | refine w3 ?_ | refine w4 ?_ | refine w5 ?_); intro K hK; simp (maxSteps := 4000000) +contextual [hp]; (try (refine finD rfl ?_; simp)); refine hK _ ?_; clear hK K) | ((first | refine w6 rfl ?_ ?_ | refine w7 rfl ?_ ?_) <;> (intro h; replace hp := And.intro h hp; clear h; try simp only [z0, z1, z2, z3, z4, z5, z6, z7, z8, z9, z10, z11, z12] at hp)) | refine w8 ?_ | refine w9 ?_ | refine w10 ?_ | refine w11 ?_ | refine w12 ?_ | refine w13 ?_ | refine w14 ?_ | refine w15 ?_ | refine w16 ?_ | refine w17 ?_ | refine w18 ?_ | refine w19 ?_ | refine w20 ?_ | refine w21 (by decide) ?_ | refine hleave .ret _ (by simp) ?_ | refine hleave (.exit _) _ (by simp) ?_ | refine w22 ?_
    refine c_loopI (fun (i : Nat) => (⟨[(1, .ref (.loc 1) 0), (3, .sl 1 (.loc 12) N.length), (6, .bool (pI N (c1, false) i).2), (7, nV i)], [(.loc 1, .cells false [.slice 2 (N.map ndV), .slice 2 (E.map prV)]), (.loc 12, .cells true ((pI N (c1, false) i).1.map nV))]⟩ : St))
     (fun i => i ≤ N.length) (fun i => N.length - i) 0 (by simp [pI]) (by simp) (fun i K4 hi hnext4 hleave => ?_)
    have hil := pI_len N (c1, false) i
    simp only [hcl] at hil
    by_cases hin : i < N.length
    ·have hwi : IntKind.wrap .i64 ((i : Int) + 1) = ((i + 1 : Nat) : Int) := wrapN (by omega) (by omega)
     have hsi := pI_succ N (c1, false) i
     generalize hs0 : pI N (c1, false) i = s0 at *
     repeat' first | refine w0 ?_ | refine w1 ?_ | ((first | refine w2 ?_ | refine w3 ?_ | refine w4 ?_ | refine w5 ?_); intro K hK; simp (maxSteps := 4000000) +contextual [hin, hp]; (try (refine finD rfl ?_; simp)); refine hK _ ?_; clear hK K) | ((first | refine w6 rfl ?_ ?_ | refine w7 rfl ?_ ?_) <;> (intro h; replace hp := And.intro h hp; clear h; try simp only [z0, z1, z2, z3, z4, z5, z6, z7, z8, z9, z10, z11, z12] at hp)) | refine w8 ?_ | refine w9 ?_ | refine w10 ?_ | refine w11 ?_ | refine w12 ?_ | refine w13 ?_ | refine w14 ?_ | refine w15 ?_ | refine w16 ?_ | refine w17 ?_ | refine w18 ?_ | refine w19 ?_ | refine w20 ?_ | refine w21 (by decide) ?_ | refine hleave .ret _ (by simp) ?_ | refine hleave (.exit _) _ (by simp) ?_ | refine w22 ?_
     refine c_loopI (fun (k : Nat) => (⟨[(1, .ref (.loc 1) 0), (3, .sl 1 (.loc 12) N.length), (6, .bool (pK N i s0 k).2), (7, nV i), (8, nV k)], [(.loc 1, .cells false [.slice 2 (N.map ndV), .slice 2 (E.map prV)]), (.loc 12, .cells true ((pK N i s0 k).1.map nV))]⟩ : St))
      (fun k => k ≤ i) (fun k => i - k) 0 (by simp [pK]) (by simp) (fun k K5 hk hnext5 hleave => ?_)
     have hkl := pK_len N i s0 k
     rw [hil] at hkl
     by_cases hki : k < i
     ·have hwk : IntKind.wrap .i64 ((k : Int) + 1) = ((k + 1 : Nat) : Int) := wrapN (by omega) (by omega)
      have hkn : k < N.length := by omega
      have hsk := pK_succ N i s0 k
      generalize hs1 : pK N i s0 k = s1 at *
      have h1 : i < s1.1.length := by omega
      have h2 : k < s1.1.length := by omega
      have hlk := like_ok (B := B) (N := N) (E := E) (c := s1.1) (i := i) (k := k) hin hkn (by rw [hkl]; exact (ha i hin).2) (by rw [hkl]; exact (ha k hkn).2) (ha i hin).1
      have hjk := join_ok (B := B) (c := s1.1) (a := i) (b := k) h1 h2 (by omega)
      rw [hkl] at hlk hjk
      by_cases hne : nth s1.1 i = nth s1.1 k
      ·have hne2 : ((nth s1.1 i : Nat) : Int) = ((nth s1.1 k : Nat) : Int) := by omega
       rw [show pStep N i s1 k = s1 by simp [pStep, hne]] at hsk
       repeat' first | refine w0 ?_ | refine w1 ?_ | ((first | refine w2 ?_ | refine w3 ?_ | refine w4 ?_ | refine w5 ?_); intro K hK; simp (maxSteps := 4000000) +contextual [hki, hin, hkn, h1, h2, hne2, hp]; (try (refine finD rfl ?_; simp)); refine hK _ ?_; clear hK K) | ((first | refine w6 rfl ?_ ?_ | refine w7 rfl ?_ ?_) <;> (intro h; replace hp := And.intro h hp; clear h; try simp only [z0, z1, z2, z3, z4, z5, z6, z7, z8, z9, z10, z11, z12] at hp)) | refine w8 ?_ | refine w9 ?_ | refine w10 ?_ | refine w11 ?_ | refine w12 ?_ | refine w13 ?_ | refine w14 ?_ | refine w15 ?_ | refine w16 ?_ | refine w17 ?_ | refine w18 ?_ | refine w19 ?_ | refine w20 ?_ | refine w21 (by decide) ?_ | refine hleave .ret _ (by simp) ?_ | refine hleave (.exit _) _ (by simp) ?_ | refine w22 ?_
       all_goals exact hnext5 _ (k + 1) (by simp [hwk, hsk]) hki (by omega)
      ·have hne2 : ¬ ((nth s1.1 i : Nat) : Int) = ((nth s1.1 k : Nat) : Int) := by omega
       repeat' first | refine w0 ?_ | refine w1 ?_ | ((first | refine w2 ?_ | refine w3 ?_ | refine w4 ?_ | refine w5 ?_); intro K hK; simp (maxSteps := 4000000) +contextual [hki, hin, hkn, h1, h2, hne2, hp]; (try (refine finD rfl ?_; simp)); refine hK _ ?_; clear hK K) | ((first | refine w6 rfl ?_ ?_ | refine w7 rfl ?_ ?_) <;> (intro h; replace hp := And.intro h hp; clear h; try simp only [z0, z1, z2, z3, z4, z5, z6, z7, z8, z9, z10, z11, z12] at hp)) | refine w8 ?_ | refine w9 ?_ | refine w10 ?_ | refine w11 ?_ | refine w12 ?_ | refine w13 ?_ | refine w14 ?_ | refine w15 ?_ | refine w16 ?_ | refine w17 ?_ | refine w18 ?_ | refine w19 ?_ | refine w20 ?_ | refine w21 (by decide) ?_ | refine hleave .ret _ (by simp) ?_ | refine hleave (.exit _) _ (by simp) ?_ | refine w22 ?_
       refine c_regD fun K hK => ?_
       simp (maxSteps := 4000000) +contextual [hki, hin, hkn, h1, h2, hne2, hp]
       refine callK (hlk) (by simp) ?_
       simp (maxSteps := 4000000) +contextual [hki, hin, hkn, h1, h2, hne2, hp]
       refine finD rfl ?_
       simp
       refine hK _ ?_
       clear hK K
       cases hlf : likeF N s1.1 i k with
       | true =>
        rw [show pStep N i s1 k = (joinF s1.1 i k, true) by simp [pStep, hne, hlf]] at hsk
        repeat' first | refine w0 ?_ | refine w1 ?_ | ((first | refine w2 ?_ | refine w3 ?_ | refine w4 ?_ | refine w5 ?_); intro K hK; simp (maxSteps := 4000000) +contextual [hp]; (try (refine finD rfl ?_; simp)); refine hK _ ?_; clear hK K) | ((first | refine w6 rfl ?_ ?_ | refine w7 rfl ?_ ?_) <;> (intro h; replace hp := And.intro h hp; clear h; try simp only [z0, z1, z2, z3, z4, z5, z6, z7, z8, z9, z10, z11, z12] at hp)) | refine w8 ?_ | refine w9 ?_ | refine w10 ?_ | refine w11 ?_ | refine w12 ?_ | refine w13 ?_ | refine w14 ?_ | refine w15 ?_ | refine w16 ?_ | refine w17 ?_ | refine w18 ?_ | refine w19 ?_ | refine w20 ?_ | refine w21 (by decide) ?_ | refine hleave .ret _ (by simp) ?_ | refine hleave (.exit _) _ (by simp) ?_ | refine w22 ?_
        refine c_reg fun K hK => ?_
        simp (maxSteps := 4000000) +contextual [hp]
        refine callK (hjk) (by simp) ?_
        simp (maxSteps := 4000000) +contextual [hp]
        refine hK _ ?_
        clear hK K
        repeat' first | refine w0 ?_ | refine w1 ?_ | ((first | refine w2 ?_ | refine w3 ?_ | refine w4 ?_ | refine w5 ?_); intro K hK; simp (maxSteps := 4000000) +contextual [hp]; (try (refine finD rfl ?_; simp)); refine hK _ ?_; clear hK K) | ((first | refine w6 rfl ?_ ?_ | refine w7 rfl ?_ ?_) <;> (intro h; replace hp := And.intro h hp; clear h; try simp only [z0, z1, z2, z3, z4, z5, z6, z7, z8, z9, z10, z11, z12] at hp)) | refine w8 ?_ | refine w9 ?_ | refine w10 ?_ | refine w11 ?_ | refine w12 ?_ | refine w13 ?_ | refine w14 ?_ | refine w15 ?_ | refine w16 ?_ | refine w17 ?_ | refine w18 ?_ | refine w19 ?_ | refine w20 ?_ | refine w21 (by decide) ?_ | refine hleave .ret _ (by simp) ?_ | refine hleave (.exit _) _ (by simp) ?_ | refine w22 ?_
        all_goals exact hnext5 _ (k + 1) (by simp [hwk, hsk]) hki (by omega)
       | false =>
        rw [show pStep N i s1 k = s1 by simp [pStep, hlf]] at hsk
        repeat' first | refine w0 ?_ | refine w1 ?_ | ((first | refine w2 ?_ | refine w3 ?_ | refine w4 ?_ | refine w5 ?_); intro K hK; simp (maxSteps := 4000000) +contextual [hp]; (try (refine finD rfl ?_; simp)); refine hK _ ?_; clear hK K) | ((first | refine w6 rfl ?_ ?_ | refine w7 rfl ?_ ?_) <;> (intro h; replace hp := And.intro h hp; clear h; try simp only [z0, z1, z2, z3, z4, z5, z6, z7, z8, z9, z10, z11, z12] at hp)) | refine w8 ?_ | refine w9 ?_ | refine w10 ?_ | refine w11 ?_ | refine w12 ?_ | refine w13 ?_ | refine w14 ?_ | refine w15 ?_ | refine w16 ?_ | refine w17 ?_ | refine w18 ?_ | refine w19 ?_ | refine w20 ?_ | refine w21 (by decide) ?_ | refine hleave .ret _ (by simp) ?_ | refine hleave (.exit _) _ (by simp) ?_ | refine w22 ?_
        all_goals exact hnext5 _ (k + 1) (by simp [hwk, hsk]) hki (by omega)
     ·have hke : k = i := by omega
      subst hke
      repeat' first | refine w0 ?_ | refine w1 ?_ | ((first | refine w2 ?_ | refine w3 ?_ | refine w4 ?_ | refine w5 ?_); intro K hK; simp (maxSteps := 4000000) +contextual [hp]; (try (refine finD rfl ?_; simp)); refine hK _ ?_; clear hK K) | ((first | refine w6 rfl ?_ ?_ | refine w7 rfl ?_ ?_) <;> (intro h; replace hp := And.intro h hp; clear h; try simp only [z0, z1, z2, z3, z4, z5, z6, z7, z8, z9, z10, z11, z12] at hp)) | refine w8 ?_ | refine w9 ?_ | refine w10 ?_ | refine w11 ?_ | refine w12 ?_ | refine w13 ?_ | refine w14 ?_ | refine w15 ?_ | refine w16 ?_ | refine w17 ?_ | refine w18 ?_ | refine w19 ?_ | refine w20 ?_ | refine w21 (by decide) ?_ | refine hleave .ret _ (by simp) ?_ | refine hleave (.exit _) _ (by simp) ?_ | refine w22 ?_
      all_goals exact hnext4 _ (k + 1) (by simp [hwi, hsi]) hin (by omega)
    ·have hie : i = N.length := by omega
     subst hie
     repeat' first | refine w0 ?_ | refine w1 ?_ | ((first | refine w2 ?_ | refine w3 ?_ | refine w4 ?_ | refine w5 ?_); intro K hK; simp (maxSteps := 4000000) +contextual [hp]; (try (refine finD rfl ?_; simp)); refine hK _ ?_; clear hK K) | ((first | refine w6 rfl ?_ ?_ | refine w7 rfl ?_ ?_) <;> (intro h; replace hp := And.intro h hp; clear h; try simp only [z0, z1, z2, z3, z4, z5, z6, z7, z8, z9, z10, z11, z12] at hp)) | refine w8 ?_ | refine w9 ?_ | refine w10 ?_ | refine w11 ?_ | refine w12 ?_ | refine w13 ?_ | refine w14 ?_ | refine w15 ?_ | refine w16 ?_ | refine w17 ?_ | refine w18 ?_ | refine w19 ?_ | refine w20 ?_ | refine w21 (by decide) ?_ | refine hleave .ret _ (by simp) ?_ | refine hleave (.exit _) _ (by simp) ?_ | refine w22 ?_
     cases hr with
     | done hf =>
      exact hnext _ ((pI N (c1, false) N.length).1, (pI N (c1, false) N.length).2, 0) (by simp) ⟨hil, by simp [hf]⟩ (by simp)
     | @again _ _ k hf hr =>
      exact hnext _ ((pI N (c1, false) N.length).1, (pI N (c1, false) N.length).2, k + 1) (by simp) ⟨hil, by simp [hf]; exact hr⟩ (by simp)
end Go.Proofs.YtjabgfnljbnmmaaDoor
