/- A part of the proof of a law of this seat: no condition. -/
import Derived.Test.YtjabgfnljbnmmaaDoorE16
set_option linter.unusedSimpArgs false
set_option linter.unusedVariables false
set_option maxRecDepth 20000
set_option maxHeartbeats 40000000
namespace Go.Proofs.YtjabgfnljbnmmaaDoor
open Go.Ax
attribute [-simp] List.map_set
def newG : GS := ⟨[], 0, [], [], [], [], [], 0, [], []⟩
theorem requal_bad {B : Heap} {N : List Nd} {E : List (Nat × Nat)} {a b : Int} (h : ¬ ((0 ≤ a ∧ a < N.length) ∧ (0 ≤ b ∧ b < N.length))) : Ok B 43 [wV N E, iV a, iV b] [] (.tup [wV N E, nV 0, nV 50]) [] [] := by
 refine k43 ?_
 have hp : True := trivial
 by_cases ha : 0 ≤ a ∧ a < N.length
 ·have hb : ¬ (0 ≤ b ∧ b < N.length) := fun hb => h ⟨ha, hb⟩
  have h1 := is_ok (B := B) (N := N) (E := E) (a := a) (b := true) (by simp [ha])
  have h2 := is_ok (B := B) (N := N) (E := E) (a := b) (b := false) (by simpa using hb)
  repeat' first | refine w0 ?_ | refine w1 ?_ | ((first | refine w2 ?_ | refine w3 ?_ | refine w4 ?_ | refine w5 ?_); intro K hK; simp (maxSteps := 4000000) +contextual [hp]; (try (refine finD rfl ?_; simp)); refine hK _ ?_; clear hK K) | ((first | refine w6 rfl ?_ ?_ | refine w7 rfl ?_ ?_) <;> (intro h; replace hp := And.intro h hp; clear h; try simp only [z0, z1, z2, z3, z4, z5, z6, z7, z8, z9, z10, z11, z12] at hp)) | refine w8 ?_ | refine w9 ?_ | refine w10 ?_ | refine w11 ?_ | refine w12 ?_ | refine w13 ?_ | refine w14 ?_ | refine w15 ?_ | refine w16 ?_ | refine w17 ?_ | refine w18 ?_ | refine w19 ?_ | refine w20 ?_ | refine w21 (by decide) ?_ | refine w22 ?_
  refine c_reg fun K hK => ?_
  simp (maxSteps := 4000000) +contextual [hp]
  refine callK (h1) (by simp) ?_
  simp (maxSteps := 4000000) +contextual [hp]
  refine callK (h2) (by simp) ?_
  simp (maxSteps := 4000000) +contextual [hp]
  refine hK _ ?_
  clear hK K
  repeat' first | refine w0 ?_ | refine w1 ?_ | ((first | refine w2 ?_ | refine w3 ?_ | refine w4 ?_ | refine w5 ?_); intro K hK; simp (maxSteps := 4000000) +contextual [hp]; (try (refine finD rfl ?_; simp)); refine hK _ ?_; clear hK K) | ((first | refine w6 rfl ?_ ?_ | refine w7 rfl ?_ ?_) <;> (intro h; replace hp := And.intro h hp; clear h; try simp only [z0, z1, z2, z3, z4, z5, z6, z7, z8, z9, z10, z11, z12] at hp)) | refine w8 ?_ | refine w9 ?_ | refine w10 ?_ | refine w11 ?_ | refine w12 ?_ | refine w13 ?_ | refine w14 ?_ | refine w15 ?_ | refine w16 ?_ | refine w17 ?_ | refine w18 ?_ | refine w19 ?_ | refine w20 ?_ | refine w21 (by decide) ?_ | refine w22 ?_
  all_goals simp [EndA]
 ·have h1 := is_ok (B := B) (N := N) (E := E) (a := a) (b := false) (by simpa using ha)
  repeat' first | refine w0 ?_ | refine w1 ?_ | ((first | refine w2 ?_ | refine w3 ?_ | refine w4 ?_ | refine w5 ?_); intro K hK; simp (maxSteps := 4000000) +contextual [hp]; (try (refine finD rfl ?_; simp)); refine hK _ ?_; clear hK K) | ((first | refine w6 rfl ?_ ?_ | refine w7 rfl ?_ ?_) <;> (intro h; replace hp := And.intro h hp; clear h; try simp only [z0, z1, z2, z3, z4, z5, z6, z7, z8, z9, z10, z11, z12] at hp)) | refine w8 ?_ | refine w9 ?_ | refine w10 ?_ | refine w11 ?_ | refine w12 ?_ | refine w13 ?_ | refine w14 ?_ | refine w15 ?_ | refine w16 ?_ | refine w17 ?_ | refine w18 ?_ | refine w19 ?_ | refine w20 ?_ | refine w21 (by decide) ?_ | refine w22 ?_
  refine c_reg fun K hK => ?_
  simp (maxSteps := 4000000) +contextual [hp]
  refine callK (h1) (by simp) ?_
  simp (maxSteps := 4000000) +contextual [hp]
  refine hK _ ?_
  clear hK K
  repeat' first | refine w0 ?_ | refine w1 ?_ | ((first | refine w2 ?_ | refine w3 ?_ | refine w4 ?_ | refine w5 ?_); intro K hK; simp (maxSteps := 4000000) +contextual [hp]; (try (refine finD rfl ?_; simp)); refine hK _ ?_; clear hK K) | ((first | refine w6 rfl ?_ ?_ | refine w7 rfl ?_ ?_) <;> (intro h; replace hp := And.intro h hp; clear h; try simp only [z0, z1, z2, z3, z4, z5, z6, z7, z8, z9, z10, z11, z12] at hp)) | refine w8 ?_ | refine w9 ?_ | refine w10 ?_ | refine w11 ?_ | refine w12 ?_ | refine w13 ?_ | refine w14 ?_ | refine w15 ?_ | refine w16 ?_ | refine w17 ?_ | refine w18 ?_ | refine w19 ?_ | refine w20 ?_ | refine w21 (by decide) ?_ | refine w22 ?_
  all_goals simp [EndA]
theorem requal_ok {B : Heap} {N : List Nd} {E : List (Nat × Nat)} {a b : Nat} (ha : a < N.length) (hb : b < N.length) (hE : E.length < 16384) : Ok B 43 [wV N E, nV a, nV b] [] (.tup [wV N (E ++ [(a, b)]), nV E.length, nV 0]) [] [] := by
 refine k43 ?_
 have hp : True := trivial
 have h1 := is_ok (B := B) (N := N) (E := E) (a := (a : Int)) (b := true) (by simp [ha])
 have h2 := is_ok (B := B) (N := N) (E := E) (a := (b : Int)) (b := true) (by simp [hb])
 have hE1 : ¬ 16384 ≤ E.length := by omega
 have hE2 : ¬ (16384 : Int) ≤ (E.length : Int) := by omega
 have hE3 : (E.length + 1) * 16 ≤ 140737488355328 := by omega
 have hE4 : E.length * 16 ≤ 140737488355328 := by omega
 repeat' first | refine w0 ?_ | refine w1 ?_ | ((first | refine w2 ?_ | refine w3 ?_ | refine w4 ?_ | refine w5 ?_); intro K hK; simp (maxSteps := 4000000) +contextual [hp]; (try (refine finD rfl ?_; simp)); refine hK _ ?_; clear hK K) | ((first | refine w6 rfl ?_ ?_ | refine w7 rfl ?_ ?_) <;> (intro h; replace hp := And.intro h hp; clear h; try simp only [z0, z1, z2, z3, z4, z5, z6, z7, z8, z9, z10, z11, z12] at hp)) | refine w8 ?_ | refine w9 ?_ | refine w10 ?_ | refine w11 ?_ | refine w12 ?_ | refine w13 ?_ | refine w14 ?_ | refine w15 ?_ | refine w16 ?_ | refine w17 ?_ | refine w18 ?_ | refine w19 ?_ | refine w20 ?_ | refine w21 (by decide) ?_ | refine w22 ?_
 refine c_reg fun K hK => ?_
 simp (maxSteps := 4000000) +contextual [hp]
 refine callK (h1) (by simp) ?_
 simp (maxSteps := 4000000) +contextual [hp]
 refine callK (h2) (by simp) ?_
 simp (maxSteps := 4000000) +contextual [hp]
 refine hK _ ?_
 clear hK K
 repeat' first | refine w0 ?_ | refine w1 ?_ | ((first | refine w2 ?_ | refine w3 ?_ | refine w4 ?_ | refine w5 ?_); intro K hK; simp (maxSteps := 4000000) +contextual [hE1, hE2, hE3, hE4, hp]; (try (refine finD rfl ?_; simp)); refine hK _ ?_; clear hK K) | ((first | refine w6 rfl ?_ ?_ | refine w7 rfl ?_ ?_) <;> (intro h; replace hp := And.intro h hp; clear h; try simp only [z0, z1, z2, z3, z4, z5, z6, z7, z8, z9, z10, z11, z12] at hp)) | refine w8 ?_ | refine w9 ?_ | refine w10 ?_ | refine w11 ?_ | refine w12 ?_ | refine w13 ?_ | refine w14 ?_ | refine w15 ?_ | refine w16 ?_ | refine w17 ?_ | refine w18 ?_ | refine w19 ?_ | refine w20 ?_ | refine w21 (by decide) ?_ | refine w22 ?_
 all_goals simp [EndA]
 all_goals exact wrapN rfl (by omega)
/-- Where a term stands. -/
theorem rnode_bad {B : Heap} {N : List Nd} {E : List (Nat × Nat)} {f : List UInt8} {l : List Int} (hl : l.length ≤ 1000000) (h : ∃ n ∈ l, ¬ (0 ≤ n ∧ n < N.length)) : Ok B 42 [wV N E, .str f, .slice 1 (l.map iV)] [] (.tup [wV N E, nV 0, nV 50]) [] [] := by
 refine k42 ?_
 have hp : True := trivial
 repeat' first | refine w0 ?_ | refine w1 ?_ | ((first | refine w2 ?_ | refine w3 ?_ | refine w4 ?_ | refine w5 ?_); intro K hK; simp (maxSteps := 4000000) +contextual [hp]; (try (refine finD rfl ?_; simp)); refine hK _ ?_; clear hK K) | ((first | refine w6 rfl ?_ ?_ | refine w7 rfl ?_ ?_) <;> (intro h; replace hp := And.intro h hp; clear h; try simp only [z0, z1, z2, z3, z4, z5, z6, z7, z8, z9, z10, z11, z12] at hp)) | refine w8 ?_ | refine w9 ?_ | refine w10 ?_ | refine w11 ?_ | refine w12 ?_ | refine w13 ?_ | refine w14 ?_ | refine w15 ?_ | refine w16 ?_ | refine w17 ?_ | refine w18 ?_ | refine w19 ?_ | refine w20 ?_ | refine w21 (by decide) ?_ | refine hleave .ret _ (by simp) ?_ | refine hleave (.exit _) _ (by simp) ?_ | refine w22 ?_
 refine c_loopI (fun (j : Nat) => (⟨[(1, .str f), (2, .slice 1 (l.map iV)), (3, .ref (.loc 3) 0), (6, .ref (.loc 6) 0), (9, nV j)], [(.loc 3, .cells false [.slice 2 (N.map ndV), .slice 2 (E.map prV)]), (.loc 6, .cells false [.own 2 [], .own 2 []])]⟩ : St)) (fun j => j ≤ l.length ∧ ∀ n ∈ l.take j, 0 ≤ n ∧ n < N.length) (fun j => l.length - j) 0 (by simp) (by simp) (fun j K' hj hnext hleave => ?_)
 obtain ⟨hj, hd⟩ := hj
 have hjl : j < l.length := by
  rcases Nat.lt_or_ge j l.length with h' | h'
  ·exact h'
  ·obtain ⟨n, hn1, hn2⟩ := h
   rw [List.take_of_length_le h'] at hd
   exact absurd (hd n hn1) hn2
 have hw : IntKind.wrap .i64 ((j : Int) + 1) = ((j + 1 : Nat) : Int) := wrapN (by omega) (by omega)
 by_cases hx : 0 ≤ nth l j ∧ nth l j < N.length
 ·have hx1 : ¬ nth l j < 0 := by have := hx.1; omega
  have hx2 : ¬ (N.length : Int) ≤ nth l j := by have := hx.2; omega
  repeat' first | refine w0 ?_ | refine w1 ?_ | ((first | refine w2 ?_ | refine w3 ?_ | refine w4 ?_ | refine w5 ?_); intro K hK; simp (maxSteps := 4000000) +contextual [hjl, hx1, hx2, hp]; (try (refine finD rfl ?_; simp)); refine hK _ ?_; clear hK K) | ((first | refine w6 rfl ?_ ?_ | refine w7 rfl ?_ ?_) <;> (intro h; replace hp := And.intro h hp; clear h; try simp only [z0, z1, z2, z3, z4, z5, z6, z7, z8, z9, z10, z11, z12] at hp)) | refine w8 ?_ | refine w9 ?_ | refine w10 ?_ | refine w11 ?_ | refine w12 ?_ | refine w13 ?_ | refine w14 ?_ | refine w15 ?_ | refine w16 ?_ | refine w17 ?_ | refine w18 ?_ | refine w19 ?_ | refine w20 ?_ | refine w21 (by decide) ?_ | refine hleave .ret _ (by simp) ?_ | refine hleave (.exit _) _ (by simp) ?_ | refine w22 ?_
  refine hnext _ (j + 1) (by simp [hw]) ⟨hjl, ?_⟩ (by omega)
  intro n hn
  rw [take_nth hjl] at hn
  rcases List.mem_append.1 hn with hn | hn
  ·exact hd n hn
  ·simp at hn; rw [hn]; exact hx
 ·have hx3 : nth l j < 0 ∨ (N.length : Int) ≤ nth l j := by omega
  rcases hx3 with hx3 | hx3
  ·skip
   repeat' first | refine w0 ?_ | refine w1 ?_ | ((first | refine w2 ?_ | refine w3 ?_ | refine w4 ?_ | refine w5 ?_); intro K hK; simp (maxSteps := 4000000) +contextual [hjl, hx3, hp]; (try (refine finD rfl ?_; simp)); refine hK _ ?_; clear hK K) | ((first | refine w6 rfl ?_ ?_ | refine w7 rfl ?_ ?_) <;> (intro h; replace hp := And.intro h hp; clear h; try simp only [z0, z1, z2, z3, z4, z5, z6, z7, z8, z9, z10, z11, z12] at hp)) | refine w8 ?_ | refine w9 ?_ | refine w10 ?_ | refine w11 ?_ | refine w12 ?_ | refine w13 ?_ | refine w14 ?_ | refine w15 ?_ | refine w16 ?_ | refine w17 ?_ | refine w18 ?_ | refine w19 ?_ | refine w20 ?_ | refine w21 (by decide) ?_ | refine hleave .ret _ (by simp) ?_ | refine hleave (.exit _) _ (by simp) ?_ | refine w22 ?_
   all_goals simp [EndA]
  ·have hx4 : ¬ nth l j < 0 := by omega
   repeat' first | refine w0 ?_ | refine w1 ?_ | ((first | refine w2 ?_ | refine w3 ?_ | refine w4 ?_ | refine w5 ?_); intro K hK; simp (maxSteps := 4000000) +contextual [hjl, hx3, hx4, hp]; (try (refine finD rfl ?_; simp)); refine hK _ ?_; clear hK K) | ((first | refine w6 rfl ?_ ?_ | refine w7 rfl ?_ ?_) <;> (intro h; replace hp := And.intro h hp; clear h; try simp only [z0, z1, z2, z3, z4, z5, z6, z7, z8, z9, z10, z11, z12] at hp)) | refine w8 ?_ | refine w9 ?_ | refine w10 ?_ | refine w11 ?_ | refine w12 ?_ | refine w13 ?_ | refine w14 ?_ | refine w15 ?_ | refine w16 ?_ | refine w17 ?_ | refine w18 ?_ | refine w19 ?_ | refine w20 ?_ | refine w21 (by decide) ?_ | refine hleave .ret _ (by simp) ?_ | refine hleave (.exit _) _ (by simp) ?_ | refine w22 ?_
   all_goals simp [EndA]
end Go.Proofs.YtjabgfnljbnmmaaDoor
