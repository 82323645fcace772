/- A part of the proof of a law of this seat: no condition. -/
import Derived.Test.YtjabgfnljbnmmaaDoorEL
set_option linter.unusedSimpArgs false
set_option linter.unusedVariables false
set_option maxRecDepth 20000
namespace Go.Proofs.YtjabgfnljbnmmaaDoor
open Go.Ax
theorem root_ok {B : Heap} {G : GS} {a r k : Nat} (h : Rt G.P a r k) : Ok B 31 [gR, nV a] (gObs G) (nV r) (gObs G) [] := by
 refine k31 ?_
 have hp : True := trivial
 repeat' first | refine w0 ?_ | refine w1 ?_ | ((first | refine w2 ?_ | refine w3 ?_ | refine w4 ?_ | refine w5 ?_); intro K hK; simp (maxSteps := 4000000) +contextual [hp]; (try (refine finD rfl ?_; simp)); refine hK _ ?_; clear hK K) | ((first | refine w6 rfl ?_ ?_ | refine w7 rfl ?_ ?_) <;> (intro h; replace hp := And.intro h hp; clear h; try simp only [z0, z1, z2, z3, z4, z5, z6, z7, z8, z9, z10, z11, z12] at hp)) | refine w8 ?_ | refine w9 ?_ | refine w10 ?_ | refine w11 ?_ | refine w12 ?_ | refine w13 ?_ | refine w14 ?_ | refine w15 ?_ | refine w16 ?_ | refine w17 ?_ | refine w18 ?_ | refine w19 ?_ | refine w20 ?_ | refine w21 (by decide) ?_ | refine hleave .ret _ (by simp) ?_ | refine hleave (.exit _) _ (by simp) ?_ | refine w22 ?_
 refine c_loopI (fun (p : Nat × Nat) => (⟨[(0, gR), (1, nV p.1)], gIn G⟩ : St)) (fun p => Rt G.P p.1 r p.2) (fun p => p.2) (a, k) (by simp) h (fun p K' hn hnext hleave => ?_)
 obtain ⟨x, j⟩ := p
 simp only at hn hnext ⊢
 have hx := hn.lt
 cases hn with
 | stop _ e =>
  repeat' first | refine w0 ?_ | refine w1 ?_ | ((first | refine w2 ?_ | refine w3 ?_ | refine w4 ?_ | refine w5 ?_); intro K hK; simp (maxSteps := 4000000) +contextual [hx, e, hp]; (try (refine finD rfl ?_; simp)); refine hK _ ?_; clear hK K) | ((first | refine w6 rfl ?_ ?_ | refine w7 rfl ?_ ?_) <;> (intro h; replace hp := And.intro h hp; clear h; try simp only [z0, z1, z2, z3, z4, z5, z6, z7, z8, z9, z10, z11, z12] at hp)) | refine w8 ?_ | refine w9 ?_ | refine w10 ?_ | refine w11 ?_ | refine w12 ?_ | refine w13 ?_ | refine w14 ?_ | refine w15 ?_ | refine w16 ?_ | refine w17 ?_ | refine w18 ?_ | refine w19 ?_ | refine w20 ?_ | refine w21 (by decide) ?_ | refine hleave .ret _ (by simp) ?_ | refine hleave (.exit _) _ (by simp) ?_ | refine w22 ?_
  simp [EndA]
 | step _ e hs =>
  repeat' first | refine w0 ?_ | refine w1 ?_ | ((first | refine w2 ?_ | refine w3 ?_ | refine w4 ?_ | refine w5 ?_); intro K hK; simp (maxSteps := 4000000) +contextual [hx, e, hp]; (try (refine finD rfl ?_; simp)); refine hK _ ?_; clear hK K) | ((first | refine w6 rfl ?_ ?_ | refine w7 rfl ?_ ?_) <;> (intro h; replace hp := And.intro h hp; clear h; try simp only [z0, z1, z2, z3, z4, z5, z6, z7, z8, z9, z10, z11, z12] at hp)) | refine w8 ?_ | refine w9 ?_ | refine w10 ?_ | refine w11 ?_ | refine w12 ?_ | refine w13 ?_ | refine w14 ?_ | refine w15 ?_ | refine w16 ?_ | refine w17 ?_ | refine w18 ?_ | refine w19 ?_ | refine w20 ?_ | refine w21 (by decide) ?_ | refine hleave .ret _ (by simp) ?_ | refine hleave (.exit _) _ (by simp) ?_ | refine w22 ?_
  ·refine hnext _ (nth G.P x, _) (by simp) hs (by simp)
  ·exfalso; exact e (by have := hp.1; omega)
theorem key_ok {K} {f : List UInt8} {xs : List Nat} (hf : f.length ≤ 140737488355328) (hl : xs.length ≤ 1000000) (ha : ∀ a ∈ xs, a ≤ 9223372036854775807) :
  Ok (bs K) 36 [.str f, .slice 1 (xs.map nV)] [] (.str (keyL f xs)) [] [] := by
 have hf2 : f.length ≤ 9223372036854775807 := by omega
 have h1 := itoa_len (n := f.length) (by omega)
 have h2 : (itoa f.length).length + 1 ≤ 1000000000000000000 := by omega
 have h3 : (itoa f.length).length + (f.length + 1) ≤ 1000000000000000000 := by omega
 have h3' : (itoa f.length).length + 1 + f.length ≤ 1000000000000000000 := by omega
 have hf3 : ((f.length : Nat) : Int) ≤ 9223372036854775807 := by omega
 refine k36 (viaS (.cons fn46 .nil) ?_)
 have hp : True := trivial
 repeat' first | refine w0 ?_ | refine w1 ?_ | ((first | refine w2 ?_ | refine w3 ?_ | refine w4 ?_ | refine w5 ?_); intro K hK; simp (maxSteps := 4000000) +contextual [lookS, sp46, hf2, hf3, h2, h3, h3', ← keyL_nil, hp]; (try (refine finD rfl ?_; simp)); refine hK _ ?_; clear hK K) | ((first | refine w6 rfl ?_ ?_ | refine w7 rfl ?_ ?_) <;> (intro h; replace hp := And.intro h hp; clear h; try simp only [z0, z1, z2, z3, z4, z5, z6, z7, z8, z9, z10, z11, z12] at hp)) | refine w8 ?_ | refine w9 ?_ | refine w10 ?_ | refine w11 ?_ | refine w12 ?_ | refine w13 ?_ | refine w14 ?_ | refine w15 ?_ | refine w16 ?_ | refine w17 ?_ | refine w18 ?_ | refine w19 ?_ | refine w20 ?_ | refine w21 (by decide) ?_ | refine hleave .ret _ (by simp) ?_ | refine hleave (.exit _) _ (by simp) ?_ | refine w22 ?_
 refine c_loopI (fun (j : Nat) => (⟨[(5, .str (keyL f (xs.take j))), (14, .slice 1 (xs.map nV)), (15, nV xs.length), (16, nV j)], []⟩ : St)) (fun j => j ≤ xs.length) (fun j => xs.length - j) 0 (by simp) (Nat.zero_le _) (fun j K' hj hnext hleave => ?_)
 have hlen : (keyL f (xs.take j)).length ≤ 140737488355400 + 22 * xs.length := by
  have := keyL_len (f := f) (xs := xs.take j) hf (fun a h => ha a (List.mem_of_mem_take h))
  simp at this
  omega
 by_cases hjl : j < xs.length
 ·have hx := ha _ (nth_mem hjl)
  have hx2 : ((nth xs j : Nat) : Int) ≤ 9223372036854775807 := by omega
  have hi := itoa_len hx
  have hi1 : (itoa (nth xs j)).length + 1 ≤ 1000000000000000000 := by omega
  have hi1' : 1 + (itoa (nth xs j)).length ≤ 1000000000000000000 := by omega
  have hi2 : (keyL f (xs.take j)).length + ((itoa (nth xs j)).length + 1) ≤ 1000000000000000000 := by omega
  have hst := keyL_step (f := f) hjl
  have hw : IntKind.wrap .i64 ((j : Int) + 1) = ((j + 1 : Nat) : Int) := wrapN (by omega) (by omega)
  repeat' first | refine w0 ?_ | refine w1 ?_ | ((first | refine w2 ?_ | refine w3 ?_ | refine w4 ?_ | refine w5 ?_); intro K hK; simp (maxSteps := 4000000) +contextual [lookS, sp46, hjl, hx, hx2, hi1, hi1', hi2, ← hst, hp]; (try (refine finD rfl ?_; simp)); refine hK _ ?_; clear hK K) | ((first | refine w6 rfl ?_ ?_ | refine w7 rfl ?_ ?_) <;> (intro h; replace hp := And.intro h hp; clear h; try simp only [z0, z1, z2, z3, z4, z5, z6, z7, z8, z9, z10, z11, z12] at hp)) | refine w8 ?_ | refine w9 ?_ | refine w10 ?_ | refine w11 ?_ | refine w12 ?_ | refine w13 ?_ | refine w14 ?_ | refine w15 ?_ | refine w16 ?_ | refine w17 ?_ | refine w18 ?_ | refine w19 ?_ | refine w20 ?_ | refine w21 (by decide) ?_ | refine hleave .ret _ (by simp) ?_ | refine hleave (.exit _) _ (by simp) ?_ | refine w22 ?_
  refine hnext _ (j + 1) (by simp [hw]) hjl (by omega)
 ·have hje : j = xs.length := by omega
  subst hje
  repeat' first | refine w0 ?_ | refine w1 ?_ | ((first | refine w2 ?_ | refine w3 ?_ | refine w4 ?_ | refine w5 ?_); intro K hK; simp (maxSteps := 4000000) +contextual [lookS, sp46, hp]; (try (refine finD rfl ?_; simp)); refine hK _ ?_; clear hK K) | ((first | refine w6 rfl ?_ ?_ | refine w7 rfl ?_ ?_) <;> (intro h; replace hp := And.intro h hp; clear h; try simp only [z0, z1, z2, z3, z4, z5, z6, z7, z8, z9, z10, z11, z12] at hp)) | refine w8 ?_ | refine w9 ?_ | refine w10 ?_ | refine w11 ?_ | refine w12 ?_ | refine w13 ?_ | refine w14 ?_ | refine w15 ?_ | refine w16 ?_ | refine w17 ?_ | refine w18 ?_ | refine w19 ?_ | refine w20 ?_ | refine w21 (by decide) ?_ | refine hleave .ret _ (by simp) ?_ | refine hleave (.exit _) _ (by simp) ?_ | refine w22 ?_
  simp [EndA]
theorem key_ok2 {K} {f : List UInt8} {xs : List Nat} (hf : f.length ≤ 140737488355328) (hl : xs.length ≤ 1000000) (ha : ∀ a ∈ xs, a ≤ 9223372036854775807) :
  Ok (bs K) 36 [.str f, .sl 1 (.par 0) xs.length] [.cells true (xs.map nV)] (.str (keyL f xs)) [.cells true (xs.map nV)] [] := by
 have hf2 : f.length ≤ 9223372036854775807 := by omega
 have h1 := itoa_len (n := f.length) (by omega)
 have h2 : (itoa f.length).length + 1 ≤ 1000000000000000000 := by omega
 have h3 : (itoa f.length).length + (f.length + 1) ≤ 1000000000000000000 := by omega
 have h3' : (itoa f.length).length + 1 + f.length ≤ 1000000000000000000 := by omega
 have hf3 : ((f.length : Nat) : Int) ≤ 9223372036854775807 := by omega
 refine k36 (viaS (.cons fn46 .nil) ?_)
 have hp : True := trivial
 repeat' first | refine w0 ?_ | refine w1 ?_ | ((first | refine w2 ?_ | refine w3 ?_ | refine w4 ?_ | refine w5 ?_); intro K hK; simp (maxSteps := 4000000) +contextual [lookS, sp46, hf2, hf3, h2, h3, h3', ← keyL_nil, hp]; (try (refine finD rfl ?_; simp)); refine hK _ ?_; clear hK K) | ((first | refine w6 rfl ?_ ?_ | refine w7 rfl ?_ ?_) <;> (intro h; replace hp := And.intro h hp; clear h; try simp only [z0, z1, z2, z3, z4, z5, z6, z7, z8, z9, z10, z11, z12] at hp)) | refine w8 ?_ | refine w9 ?_ | refine w10 ?_ | refine w11 ?_ | refine w12 ?_ | refine w13 ?_ | refine w14 ?_ | refine w15 ?_ | refine w16 ?_ | refine w17 ?_ | refine w18 ?_ | refine w19 ?_ | refine w20 ?_ | refine w21 (by decide) ?_ | refine hleave .ret _ (by simp) ?_ | refine hleave (.exit _) _ (by simp) ?_ | refine w22 ?_
 refine c_loopI (fun (j : Nat) => (⟨[(5, .str (keyL f (xs.take j))), (14, .sl 1 (.par 0) xs.length), (15, nV xs.length), (16, nV j)], [(.par 0, .cells true (xs.map nV))]⟩ : St)) (fun j => j ≤ xs.length) (fun j => xs.length - j) 0 (by simp) (Nat.zero_le _) (fun j K' hj hnext hleave => ?_)
 have hlen : (keyL f (xs.take j)).length ≤ 140737488355400 + 22 * xs.length := by
  have := keyL_len (f := f) (xs := xs.take j) hf (fun a h => ha a (List.mem_of_mem_take h))
  simp at this
  omega
 by_cases hjl : j < xs.length
 ·have hx := ha _ (nth_mem hjl)
  have hx2 : ((nth xs j : Nat) : Int) ≤ 9223372036854775807 := by omega
  have hi := itoa_len hx
  have hi1 : (itoa (nth xs j)).length + 1 ≤ 1000000000000000000 := by omega
  have hi1' : 1 + (itoa (nth xs j)).length ≤ 1000000000000000000 := by omega
  have hi2 : (keyL f (xs.take j)).length + ((itoa (nth xs j)).length + 1) ≤ 1000000000000000000 := by omega
  have hst := keyL_step (f := f) hjl
  have hw : IntKind.wrap .i64 ((j : Int) + 1) = ((j + 1 : Nat) : Int) := wrapN (by omega) (by omega)
  repeat' first | refine w0 ?_ | refine w1 ?_ | ((first | refine w2 ?_ | refine w3 ?_ | refine w4 ?_ | refine w5 ?_); intro K hK; simp (maxSteps := 4000000) +contextual [lookS, sp46, hjl, hx, hx2, hi1, hi1', hi2, ← hst, hp]; (try (refine finD rfl ?_; simp)); refine hK _ ?_; clear hK K) | ((first | refine w6 rfl ?_ ?_ | refine w7 rfl ?_ ?_) <;> (intro h; replace hp := And.intro h hp; clear h; try simp only [z0, z1, z2, z3, z4, z5, z6, z7, z8, z9, z10, z11, z12] at hp)) | refine w8 ?_ | refine w9 ?_ | refine w10 ?_ | refine w11 ?_ | refine w12 ?_ | refine w13 ?_ | refine w14 ?_ | refine w15 ?_ | refine w16 ?_ | refine w17 ?_ | refine w18 ?_ | refine w19 ?_ | refine w20 ?_ | refine w21 (by decide) ?_ | refine hleave .ret _ (by simp) ?_ | refine hleave (.exit _) _ (by simp) ?_ | refine w22 ?_
  refine hnext _ (j + 1) (by simp [hw]) hjl (by omega)
 ·have hje : j = xs.length := by omega
  subst hje
  repeat' first | refine w0 ?_ | refine w1 ?_ | ((first | refine w2 ?_ | refine w3 ?_ | refine w4 ?_ | refine w5 ?_); intro K hK; simp (maxSteps := 4000000) +contextual [lookS, sp46, hp]; (try (refine finD rfl ?_; simp)); refine hK _ ?_; clear hK K) | ((first | refine w6 rfl ?_ ?_ | refine w7 rfl ?_ ?_) <;> (intro h; replace hp := And.intro h hp; clear h; try simp only [z0, z1, z2, z3, z4, z5, z6, z7, z8, z9, z10, z11, z12] at hp)) | refine w8 ?_ | refine w9 ?_ | refine w10 ?_ | refine w11 ?_ | refine w12 ?_ | refine w13 ?_ | refine w14 ?_ | refine w15 ?_ | refine w16 ?_ | refine w17 ?_ | refine w18 ?_ | refine w19 ?_ | refine w20 ?_ | refine w21 (by decide) ?_ | refine hleave .ret _ (by simp) ?_ | refine hleave (.exit _) _ (by simp) ?_ | refine w22 ?_
  simp [EndA]
end Go.Proofs.YtjabgfnljbnmmaaDoor
