/- A part of the proof of a law of this seat: no condition. -/
import Derived.Test.YtjabgfnljbnmmaaDoorE7
set_option linter.unusedSimpArgs false
set_option linter.unusedVariables false
set_option maxRecDepth 20000
set_option maxHeartbeats 40000000
namespace Go.Proofs.YtjabgfnljbnmmaaDoor
open Go.Ax
attribute [-simp] List.map_set
theorem node_bad {K} {G : GS} {f : List UInt8} {l : List Int} (hl : l.length ≤ 1000000) (h : ∃ n ∈ l, ¬ isN G n) : Ok (bs K) 18 [gR, .str f, .slice 1 (l.map iV)] (gObs G) (.tup [nV 0, nV 50]) (gObs G) [] := by
 refine k18 ?_
 have hp : True := trivial
 repeat' first | refine w0 ?_ | refine w1 ?_ | ((first | refine w2 ?_ | refine w3 ?_ | refine w4 ?_ | refine w5 ?_); intro K hK; simp (maxSteps := 4000000) +contextual [hp]; (try (refine finD rfl ?_; simp)); refine hK _ ?_; clear hK K) | ((first | refine w6 rfl ?_ ?_ | refine w7 rfl ?_ ?_) <;> (intro h; replace hp := And.intro h hp; clear h; try simp only [z0, z1, z2, z3, z4, z5, z6, z7, z8, z9, z10, z11, z12] at hp)) | refine w8 ?_ | refine w9 ?_ | refine w10 ?_ | refine w11 ?_ | refine w12 ?_ | refine w13 ?_ | refine w14 ?_ | refine w15 ?_ | refine w16 ?_ | refine w17 ?_ | refine w18 ?_ | refine w19 ?_ | refine w20 ?_ | refine w21 (by decide) ?_ | refine hleave .ret _ (by simp) ?_ | refine hleave (.exit _) _ (by simp) ?_ | refine w22 ?_
 refine c_loopI (fun (j : Nat) => (⟨[(0, gR), (1, .str f), (2, .slice 1 (l.map iV)), (14, .slice 1 (l.map iV)), (15, nV l.length), (16, nV j)], gIn G⟩ : St)) (fun j => j ≤ l.length ∧ ∀ n ∈ l.take j, isN G n) (fun j => l.length - j) 0 (by simp) (by simp) (fun j K' hj hnext hleave => ?_)
 obtain ⟨hj, hd⟩ := hj
 have hjl : j < l.length := by
  rcases Nat.lt_or_ge j l.length with h' | h'
  ·exact h'
  ·obtain ⟨n, hn1, hn2⟩ := h
   rw [List.take_of_length_le h'] at hd
   exact absurd (hd n hn1) hn2
 have hw : IntKind.wrap .i64 ((j : Int) + 1) = ((j + 1 : Nat) : Int) := wrapN (by omega) (by omega)
 by_cases hx : isN G (nth l j)
 ·have hx1 : ¬ nth l j < 0 := by have := hx.1; omega
  have hx2 : ¬ (G.N.length : Int) ≤ nth l j := by have := hx.2; omega
  repeat' first | refine w0 ?_ | refine w1 ?_ | ((first | refine w2 ?_ | refine w3 ?_ | refine w4 ?_ | refine w5 ?_); intro K hK; simp (maxSteps := 4000000) +contextual [hjl, hx1, hx2, hp]; (try (refine finD rfl ?_; simp)); refine hK _ ?_; clear hK K) | ((first | refine w6 rfl ?_ ?_ | refine w7 rfl ?_ ?_) <;> (intro h; replace hp := And.intro h hp; clear h; try simp only [z0, z1, z2, z3, z4, z5, z6, z7, z8, z9, z10, z11, z12] at hp)) | refine w8 ?_ | refine w9 ?_ | refine w10 ?_ | refine w11 ?_ | refine w12 ?_ | refine w13 ?_ | refine w14 ?_ | refine w15 ?_ | refine w16 ?_ | refine w17 ?_ | refine w18 ?_ | refine w19 ?_ | refine w20 ?_ | refine w21 (by decide) ?_ | refine hleave .ret _ (by simp) ?_ | refine hleave (.exit _) _ (by simp) ?_ | refine w22 ?_
  refine hnext _ (j + 1) (by simp [hw]) ⟨hjl, ?_⟩ (by omega)
  intro n hn
  rw [take_nth hjl] at hn
  rcases List.mem_append.1 hn with hn | hn
  ·exact hd n hn
  ·simp at hn; rw [hn]; exact hx
 ·have hx3 : nth l j < 0 ∨ (G.N.length : Int) ≤ nth l j := by unfold isN at hx; omega
  rcases hx3 with hx3 | hx3
  ·skip
   repeat' first | refine w0 ?_ | refine w1 ?_ | ((first | refine w2 ?_ | refine w3 ?_ | refine w4 ?_ | refine w5 ?_); intro K hK; simp (maxSteps := 4000000) +contextual [hjl, hx3, hp]; (try (refine finD rfl ?_; simp)); refine hK _ ?_; clear hK K) | ((first | refine w6 rfl ?_ ?_ | refine w7 rfl ?_ ?_) <;> (intro h; replace hp := And.intro h hp; clear h; try simp only [z0, z1, z2, z3, z4, z5, z6, z7, z8, z9, z10, z11, z12] at hp)) | refine w8 ?_ | refine w9 ?_ | refine w10 ?_ | refine w11 ?_ | refine w12 ?_ | refine w13 ?_ | refine w14 ?_ | refine w15 ?_ | refine w16 ?_ | refine w17 ?_ | refine w18 ?_ | refine w19 ?_ | refine w20 ?_ | refine w21 (by decide) ?_ | refine hleave .ret _ (by simp) ?_ | refine hleave (.exit _) _ (by simp) ?_ | refine w22 ?_
   all_goals simp [EndA]
  ·skip
   repeat' first | refine w0 ?_ | refine w1 ?_ | ((first | refine w2 ?_ | refine w3 ?_ | refine w4 ?_ | refine w5 ?_); intro K hK; simp (maxSteps := 4000000) +contextual [hjl, hx3, hp]; (try (refine finD rfl ?_; simp)); refine hK _ ?_; clear hK K) | ((first | refine w6 rfl ?_ ?_ | refine w7 rfl ?_ ?_) <;> (intro h; replace hp := And.intro h hp; clear h; try simp only [z0, z1, z2, z3, z4, z5, z6, z7, z8, z9, z10, z11, z12] at hp)) | refine w8 ?_ | refine w9 ?_ | refine w10 ?_ | refine w11 ?_ | refine w12 ?_ | refine w13 ?_ | refine w14 ?_ | refine w15 ?_ | refine w16 ?_ | refine w17 ?_ | refine w18 ?_ | refine w19 ?_ | refine w20 ?_ | refine w21 (by decide) ?_ | refine hleave .ret _ (by simp) ?_ | refine hleave (.exit _) _ (by simp) ?_ | refine w22 ?_
   all_goals simp [EndA]
theorem node_old {K} {G : GS} {f : List UInt8} {xs : List Nat} {at_ : Nat} (hf : f.length ≤ 140737488355328) (hl : xs.length ≤ 1000000) (hx : ∀ x ∈ xs, x < G.N.length) (hN : G.N.length ≤ 1000000) (hk : lk G.W (keyL f xs) = some at_) :
  Ok (bs K) 18 [gR, .str f, .slice 1 (xs.map nV)] (gObs G) (.tup [nV at_, nV 0]) (gObs G) [] := by
 refine k18 ?_
 have hp : True := trivial
 repeat' first | refine w0 ?_ | refine w1 ?_ | ((first | refine w2 ?_ | refine w3 ?_ | refine w4 ?_ | refine w5 ?_); intro K hK; simp (maxSteps := 4000000) +contextual [hp]; (try (refine finD rfl ?_; simp)); refine hK _ ?_; clear hK K) | ((first | refine w6 rfl ?_ ?_ | refine w7 rfl ?_ ?_) <;> (intro h; replace hp := And.intro h hp; clear h; try simp only [z0, z1, z2, z3, z4, z5, z6, z7, z8, z9, z10, z11, z12] at hp)) | refine w8 ?_ | refine w9 ?_ | refine w10 ?_ | refine w11 ?_ | refine w12 ?_ | refine w13 ?_ | refine w14 ?_ | refine w15 ?_ | refine w16 ?_ | refine w17 ?_ | refine w18 ?_ | refine w19 ?_ | refine w20 ?_ | refine w21 (by decide) ?_ | refine hleave .ret _ (by simp) ?_ | refine hleave (.exit _) _ (by simp) ?_ | refine w22 ?_
 refine c_loopI (fun (j : Nat) => (⟨[(0, gR), (1, .str f), (2, .slice 1 (xs.map nV)), (14, .slice 1 (xs.map nV)), (15, nV xs.length), (16, nV j)], gIn G⟩ : St)) (fun j => j ≤ xs.length) (fun j => xs.length - j) 0 (by simp) (by simp) (fun j K' hj hnext hleave => ?_)
 by_cases hjl : j < xs.length
 ·have hw : IntKind.wrap .i64 ((j : Int) + 1) = ((j + 1 : Nat) : Int) := wrapN (by omega) (by omega)
  have h0 := hx _ (nth_mem hjl)
  have hx1 : ¬ ((nth xs j : Nat) : Int) < 0 := by omega
  have hx2 : ¬ (G.N.length : Int) ≤ ((nth xs j : Nat) : Int) := by omega
  have hx3 : ¬ G.N.length ≤ nth xs j := by omega
  repeat' first | refine w0 ?_ | refine w1 ?_ | ((first | refine w2 ?_ | refine w3 ?_ | refine w4 ?_ | refine w5 ?_); intro K hK; simp (maxSteps := 4000000) +contextual [hjl, hx1, hx2, hx3, hp]; (try (refine finD rfl ?_; simp)); refine hK _ ?_; clear hK K) | ((first | refine w6 rfl ?_ ?_ | refine w7 rfl ?_ ?_) <;> (intro h; replace hp := And.intro h hp; clear h; try simp only [z0, z1, z2, z3, z4, z5, z6, z7, z8, z9, z10, z11, z12] at hp)) | refine w8 ?_ | refine w9 ?_ | refine w10 ?_ | refine w11 ?_ | refine w12 ?_ | refine w13 ?_ | refine w14 ?_ | refine w15 ?_ | refine w16 ?_ | refine w17 ?_ | refine w18 ?_ | refine w19 ?_ | refine w20 ?_ | refine w21 (by decide) ?_ | refine hleave .ret _ (by simp) ?_ | refine hleave (.exit _) _ (by simp) ?_ | refine w22 ?_
  refine hnext _ (j + 1) (by simp [hw]) hjl (by omega)
 ·have hje : j = xs.length := by omega
  subst hje
  obtain ⟨i, hfi, hi⟩ := find_some (i := 0) hk
  rw [Nat.zero_add] at hfi
  have hkk := key_ok (K := K) (f := f) (xs := xs) hf hl (fun a ha => by have := hx a ha; omega)
  repeat' first | refine w0 ?_ | refine w1 ?_ | ((first | refine w2 ?_ | refine w3 ?_ | refine w4 ?_ | refine w5 ?_); intro K hK; simp (maxSteps := 4000000) +contextual [hp]; (try (refine finD rfl ?_; simp)); refine hK _ ?_; clear hK K) | ((first | refine w6 rfl ?_ ?_ | refine w7 rfl ?_ ?_) <;> (intro h; replace hp := And.intro h hp; clear h; try simp only [z0, z1, z2, z3, z4, z5, z6, z7, z8, z9, z10, z11, z12] at hp)) | refine w8 ?_ | refine w9 ?_ | refine w10 ?_ | refine w11 ?_ | refine w12 ?_ | refine w13 ?_ | refine w14 ?_ | refine w15 ?_ | refine w16 ?_ | refine w17 ?_ | refine w18 ?_ | refine w19 ?_ | refine w20 ?_ | refine w21 (by decide) ?_ | refine hleave .ret _ (by simp) ?_ | refine hleave (.exit _) _ (by simp) ?_ | refine w22 ?_
  refine c_reg fun K hK => ?_
  simp (maxSteps := 4000000) +contextual [hp]
  refine callK (hkk) (by simp) ?_
  simp (maxSteps := 4000000) +contextual [hp]
  refine hK _ ?_
  clear hK K
  repeat' first | refine w0 ?_ | refine w1 ?_ | ((first | refine w2 ?_ | refine w3 ?_ | refine w4 ?_ | refine w5 ?_); intro K hK; simp (maxSteps := 4000000) +contextual [hfi, hp]; (try (refine finD rfl ?_; simp)); refine hK _ ?_; clear hK K) | ((first | refine w6 rfl ?_ ?_ | refine w7 rfl ?_ ?_) <;> (intro h; replace hp := And.intro h hp; clear h; try simp only [z0, z1, z2, z3, z4, z5, z6, z7, z8, z9, z10, z11, z12] at hp)) | refine w8 ?_ | refine w9 ?_ | refine w10 ?_ | refine w11 ?_ | refine w12 ?_ | refine w13 ?_ | refine w14 ?_ | refine w15 ?_ | refine w16 ?_ | refine w17 ?_ | refine w18 ?_ | refine w19 ?_ | refine w20 ?_ | refine w21 (by decide) ?_ | refine hleave .ret _ (by simp) ?_ | refine hleave (.exit _) _ (by simp) ?_ | refine w22 ?_
  all_goals simp [EndA]
theorem node_new {K} {G G' : GS} {f : List UInt8} {xs : List Nat} {n : Nat} {ρ : Nat → Nat} (hn : n = G.N.length) (hf : f.length ≤ 140737488355328) (hl : xs.length ≤ 1000000) (hx : ∀ x ∈ xs, x < G.N.length) (hN : G.N.length < 16384) (hk : lk G.W (keyL f xs) = none)
  (he : Ok (bs K) 37 [gR, nV n] (gObs { G with N := G.N ++ [⟨f, xs⟩], W := G.W ++ [(keyL f xs, n)] }) (.tup []) (gObs G') []) :
  Ok (bs K) 18 [gR, .str f, .slice 1 (xs.map nV)] (gObs G) (.tup [nV n, nV 0]) (gObs G') [] := by
 refine k18 ?_
 have hp : True := trivial
 repeat' first | refine w0 ?_ | refine w1 ?_ | ((first | refine w2 ?_ | refine w3 ?_ | refine w4 ?_ | refine w5 ?_); intro K hK; simp (maxSteps := 4000000) +contextual [hp]; (try (refine finD rfl ?_; simp)); refine hK _ ?_; clear hK K) | ((first | refine w6 rfl ?_ ?_ | refine w7 rfl ?_ ?_) <;> (intro h; replace hp := And.intro h hp; clear h; try simp only [z0, z1, z2, z3, z4, z5, z6, z7, z8, z9, z10, z11, z12] at hp)) | refine w8 ?_ | refine w9 ?_ | refine w10 ?_ | refine w11 ?_ | refine w12 ?_ | refine w13 ?_ | refine w14 ?_ | refine w15 ?_ | refine w16 ?_ | refine w17 ?_ | refine w18 ?_ | refine w19 ?_ | refine w20 ?_ | refine w21 (by decide) ?_ | refine hleave .ret _ (by simp) ?_ | refine hleave (.exit _) _ (by simp) ?_ | refine w22 ?_
 refine c_loopI (fun (j : Nat) => (⟨[(0, gR), (1, .str f), (2, .slice 1 (xs.map nV)), (14, .slice 1 (xs.map nV)), (15, nV xs.length), (16, nV j)], gIn G⟩ : St)) (fun j => j ≤ xs.length) (fun j => xs.length - j) 0 (by simp) (by simp) (fun j K' hj hnext hleave => ?_)
 by_cases hjl : j < xs.length
 ·have hw : IntKind.wrap .i64 ((j : Int) + 1) = ((j + 1 : Nat) : Int) := wrapN (by omega) (by omega)
  have h0 := hx _ (nth_mem hjl)
  have hx1 : ¬ ((nth xs j : Nat) : Int) < 0 := by omega
  have hx2 : ¬ (G.N.length : Int) ≤ ((nth xs j : Nat) : Int) := by omega
  have hx3 : ¬ G.N.length ≤ nth xs j := by omega
  repeat' first | refine w0 ?_ | refine w1 ?_ | ((first | refine w2 ?_ | refine w3 ?_ | refine w4 ?_ | refine w5 ?_); intro K hK; simp (maxSteps := 4000000) +contextual [hjl, hx1, hx2, hx3, hp]; (try (refine finD rfl ?_; simp)); refine hK _ ?_; clear hK K) | ((first | refine w6 rfl ?_ ?_ | refine w7 rfl ?_ ?_) <;> (intro h; replace hp := And.intro h hp; clear h; try simp only [z0, z1, z2, z3, z4, z5, z6, z7, z8, z9, z10, z11, z12] at hp)) | refine w8 ?_ | refine w9 ?_ | refine w10 ?_ | refine w11 ?_ | refine w12 ?_ | refine w13 ?_ | refine w14 ?_ | refine w15 ?_ | refine w16 ?_ | refine w17 ?_ | refine w18 ?_ | refine w19 ?_ | refine w20 ?_ | refine w21 (by decide) ?_ | refine hleave .ret _ (by simp) ?_ | refine hleave (.exit _) _ (by simp) ?_ | refine w22 ?_
  refine hnext _ (j + 1) (by simp [hw]) hjl (by omega)
 ·have hje : j = xs.length := by omega
  subst hje
  have hfi := find_none (i := 0) hk
  have hkk := key_ok (K := K) (f := f) (xs := xs) hf hl (fun a ha => by have := hx a ha; omega)
  have hcl := clone_ok (B := bs K) (xs := xs.map nV) (by simpa using hl) (by simp [List.all_eq_true, V.pure1])
  have hN1 : ¬ 16384 ≤ G.N.length := by omega
  have hN2 : ¬ (16384 : Int) ≤ (G.N.length : Int) := by omega
  have hN3 : (G.N.length + 1) * 40 ≤ 140737488355328 := by omega
  simp only [gObs, List.map_append, List.map_cons, List.map_nil, hn] at he
  rw [hn] at hleave
  repeat' first | refine w0 ?_ | refine w1 ?_ | ((first | refine w2 ?_ | refine w3 ?_ | refine w4 ?_ | refine w5 ?_); intro K hK; simp (maxSteps := 4000000) +contextual [hp]; (try (refine finD rfl ?_; simp)); refine hK _ ?_; clear hK K) | ((first | refine w6 rfl ?_ ?_ | refine w7 rfl ?_ ?_) <;> (intro h; replace hp := And.intro h hp; clear h; try simp only [z0, z1, z2, z3, z4, z5, z6, z7, z8, z9, z10, z11, z12] at hp)) | refine w8 ?_ | refine w9 ?_ | refine w10 ?_ | refine w11 ?_ | refine w12 ?_ | refine w13 ?_ | refine w14 ?_ | refine w15 ?_ | refine w16 ?_ | refine w17 ?_ | refine w18 ?_ | refine w19 ?_ | refine w20 ?_ | refine w21 (by decide) ?_ | refine hleave .ret _ (by simp) ?_ | refine hleave (.exit _) _ (by simp) ?_ | refine w22 ?_
  refine c_reg fun K hK => ?_
  simp (maxSteps := 4000000) +contextual [hp]
  refine callK (hkk) (by simp) ?_
  simp (maxSteps := 4000000) +contextual [hp]
  refine hK _ ?_
  clear hK K
  repeat' first | refine w0 ?_ | refine w1 ?_ | ((first | refine w2 ?_ | refine w3 ?_ | refine w4 ?_ | refine w5 ?_); intro K hK; simp (maxSteps := 4000000) +contextual [hfi, hN1, hN2, hp]; (try (refine finD rfl ?_; simp)); refine hK _ ?_; clear hK K) | ((first | refine w6 rfl ?_ ?_ | refine w7 rfl ?_ ?_) <;> (intro h; replace hp := And.intro h hp; clear h; try simp only [z0, z1, z2, z3, z4, z5, z6, z7, z8, z9, z10, z11, z12] at hp)) | refine w8 ?_ | refine w9 ?_ | refine w10 ?_ | refine w11 ?_ | refine w12 ?_ | refine w13 ?_ | refine w14 ?_ | refine w15 ?_ | refine w16 ?_ | refine w17 ?_ | refine w18 ?_ | refine w19 ?_ | refine w20 ?_ | refine w21 (by decide) ?_ | refine hleave .ret _ (by simp) ?_ | refine hleave (.exit _) _ (by simp) ?_ | refine w22 ?_
  refine c_regD fun K hK => ?_
  simp (maxSteps := 4000000) +contextual [hN3, hp]
  refine callK (hcl) (by simp) ?_
  simp (maxSteps := 4000000) +contextual [hN3, hp]
  refine finD rfl ?_
  simp
  refine hK _ ?_
  clear hK K
  repeat' first | refine w0 ?_ | refine w1 ?_ | ((first | refine w2 ?_ | refine w3 ?_ | refine w4 ?_ | refine w5 ?_); intro K hK; simp (maxSteps := 4000000) +contextual [hfi, hp]; (try (refine finD rfl ?_; simp)); refine hK _ ?_; clear hK K) | ((first | refine w6 rfl ?_ ?_ | refine w7 rfl ?_ ?_) <;> (intro h; replace hp := And.intro h hp; clear h; try simp only [z0, z1, z2, z3, z4, z5, z6, z7, z8, z9, z10, z11, z12] at hp)) | refine w8 ?_ | refine w9 ?_ | refine w10 ?_ | refine w11 ?_ | refine w12 ?_ | refine w13 ?_ | refine w14 ?_ | refine w15 ?_ | refine w16 ?_ | refine w17 ?_ | refine w18 ?_ | refine w19 ?_ | refine w20 ?_ | refine w21 (by decide) ?_ | refine hleave .ret _ (by simp) ?_ | refine hleave (.exit _) _ (by simp) ?_ | refine w22 ?_
  refine c_reg fun K hK => ?_
  simp (maxSteps := 4000000) +contextual [hp]
  refine callK (he) (by simp) ?_
  simp (maxSteps := 4000000) +contextual [hp]
  refine hK _ ?_
  clear hK K
  repeat' first | refine w0 ?_ | refine w1 ?_ | ((first | refine w2 ?_ | refine w3 ?_ | refine w4 ?_ | refine w5 ?_); intro K hK; simp (maxSteps := 4000000) +contextual [hp]; (try (refine finD rfl ?_; simp)); refine hK _ ?_; clear hK K) | ((first | refine w6 rfl ?_ ?_ | refine w7 rfl ?_ ?_) <;> (intro h; replace hp := And.intro h hp; clear h; try simp only [z0, z1, z2, z3, z4, z5, z6, z7, z8, z9, z10, z11, z12] at hp)) | refine w8 ?_ | refine w9 ?_ | refine w10 ?_ | refine w11 ?_ | refine w12 ?_ | refine w13 ?_ | refine w14 ?_ | refine w15 ?_ | refine w16 ?_ | refine w17 ?_ | refine w18 ?_ | refine w19 ?_ | refine w20 ?_ | refine w21 (by decide) ?_ | refine hleave .ret _ (by simp) ?_ | refine hleave (.exit _) _ (by simp) ?_ | refine w22 ?_
  all_goals simp [EndA]
end Go.Proofs.YtjabgfnljbnmmaaDoor
