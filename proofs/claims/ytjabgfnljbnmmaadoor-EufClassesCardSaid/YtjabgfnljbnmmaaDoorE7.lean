/- A part of the proof of a law of this seat: no condition. -/
import Derived.Test.YtjabgfnljbnmmaaDoorE6
set_option linter.unusedSimpArgs false
set_option linter.unusedVariables false
set_option maxRecDepth 20000
set_option maxHeartbeats 40000000
namespace Go.Proofs.YtjabgfnljbnmmaaDoor
open Go.Ax
attribute [-simp] List.map_set
@[simp high] theorem take_map_len {α : Type} (f : α → V) (l : List α) : (l.map f).take l.length = l.map f := List.take_of_length_le (by simp)
@[simp high] theorem take_flat3 (l : List Ed) : (l.flatMap edC).take (l.length * 3) = l.flatMap edC := List.take_of_length_le (by rw [flat3_len]; exact Nat.le_refl _)
/-- A node's own class, ahead of its arguments. -/
def enter0 (G : GS) (n : Nat) : GS := { G with P := G.P ++ [n], C := G.C ++ [[n]], U := G.U ++ [[]], D := G.D ++ [ed0] }
def useAll (ρ : Nat → Nat) (n : Nat) (xs : List Nat) (U : List (List Nat)) : List (List Nat) := xs.foldl (fun U a => U.set (ρ a) (nth U (ρ a) ++ [n])) U
/-- Its arguments know of it. -/
def enter1 (G : GS) (n : Nat) (ρ : Nat → Nat) : GS := { enter0 G n with U := useAll ρ n (nth G.N n).a (G.U ++ [[]]) }
theorem useAll_step {ρ n xs U j} (h : j < xs.length) : useAll ρ n (xs.take (j + 1)) U = (useAll ρ n (xs.take j) U).set (ρ (nth xs j)) (nth (useAll ρ n (xs.take j) U) (ρ (nth xs j)) ++ [n]) := by
 simp [useAll, take_nth h]
theorem useAll_len {ρ n} : ∀ {xs U}, (useAll ρ n xs U).length = U.length := by
 intro xs
 induction xs with
 | nil => intro U; rfl
 | cons x xs ih => intro U; simp only [useAll, List.foldl_cons]; have := ih (U := U.set (ρ x) (nth U (ρ x) ++ [n])); simp only [useAll] at this; rw [this]; simp
inductive EnterTo (G : GS) (n : Nat) (ρ : Nat → Nat) : GS → Prop
 | fresh (h : lk G.S (sigL (nth G.N n) n ρ) = none) : EnterTo G n ρ { enter1 G n ρ with S := G.S ++ [(sigL (nth G.N n) n ρ, n)] }
 | like {o G' k} (h : lk G.S (sigL (nth G.N n) n ρ) = some o) (hm : MRun (enter1 G n ρ) [⟨n, o, -1⟩] G' k) : EnterTo G n ρ G'
theorem enter_ok {K} {G G' : GS} {n : Nat} {ρ : Nat → Nat} (hP : G.P.length = n) (hC : G.C.length = n) (hU : G.U.length = n) (hD : G.D.length = n) (hs : n ≤ 1000000) (hn : NOk (enter0 G n) ρ n)
  (hρ : ∀ a ∈ (nth G.N n).a, ρ a < n + 1) (hul : ∀ j z, (nth (useAll ρ n ((nth G.N n).a.take j) (G.U ++ [[]])) z).length ≤ 100000000) (h : EnterTo G n ρ G') :
  Ok (bs K) 37 [gR, nV n] (gObs G) (.tup []) (gObs G') [] := by
 refine k37 ?_
 have hp : True := trivial
 have hlt : n < G.N.length := hn.lt
 have hb3 : (G.P.length + 1) * 8 ≤ 140737488355328 := by omega
 have hb4 : (G.C.length + 1) * 24 ≤ 140737488355328 := by omega
 have hb5 : (G.U.length + 1) * 24 ≤ 140737488355328 := by omega
 have hb6 : (G.D.length + 1) * 24 ≤ 140737488355328 := by omega
 obtain ⟨G1, hG1⟩ : ∃ G1, G1 = enter0 G n := ⟨_, rfl⟩
 obtain ⟨xs, hxs⟩ : ∃ xs, xs = (nth G.N n).a := ⟨_, rfl⟩
 have hN1 : G1.N = G.N := by rw [hG1]; rfl
 have hS1 : G1.S = G.S := by rw [hG1]; rfl
 have hU1 : G1.U = G.U ++ [[]] := by rw [hG1]; rfl
 have hal := hn.al
 rw [← hxs] at hρ hul
 repeat' first | refine w0 ?_ | refine w1 ?_ | ((first | refine w2 ?_ | refine w3 ?_ | refine w4 ?_ | refine w5 ?_); intro K hK; simp (maxSteps := 4000000) +contextual [hb3, hb4, hb5, hb6, hlt, ← hxs, hp]; (try (refine finD rfl ?_; simp)); refine hK _ ?_; clear hK K) | ((first | refine w6 rfl ?_ ?_ | refine w7 rfl ?_ ?_) <;> (intro h; replace hp := And.intro h hp; clear h; try simp only [z0, z1, z2, z3, z4, z5, z6, z7, z8, z9, z10, z11, z12] at hp)) | refine w8 ?_ | refine w9 ?_ | refine w10 ?_ | refine w11 ?_ | refine w12 ?_ | refine w13 ?_ | refine w14 ?_ | refine w15 ?_ | refine w16 ?_ | refine w17 ?_ | refine w18 ?_ | refine w19 ?_ | refine w20 ?_ | refine w21 (by decide) ?_ | refine hleave .ret _ (by simp) ?_ | refine hleave (.exit _) _ (by simp) ?_ | refine w22 ?_
 refine c_loopI (fun (j : Nat) => (⟨[(0, gR), (1, nV n), (57, .slice 1 (xs.map nV)), (58, nV xs.length), (59, nV j)], gIn { G1 with U := useAll ρ n (xs.take j) G1.U } ++ [(.loc 27, .dead), (.loc 36, .dead)]⟩ : St))
  (fun j => j ≤ xs.length) (fun j => xs.length - j) 0 (by simp [hG1, enter0, useAll]) (Nat.zero_le _) (fun j K' hj hnext hleave => ?_)
 have hul1 : G1.U.length = n + 1 := by rw [hU1]; simp [hU]
 have hul2 := useAll_len (ρ := ρ) (n := n) (xs := xs.take j) (U := G1.U)
 rw [hul1] at hul2
 have hulj := hul j
 rw [← hU1] at hulj
 have hxl : xs.length ≤ 100000 := by rw [hxs]; exact hal
 by_cases hjl : j < xs.length
 ·have hw : IntKind.wrap .i64 ((j : Int) + 1) = ((j + 1 : Nat) : Int) := wrapN (by omega) (by omega)
  have hmem : nth xs j ∈ (nth (enter0 G n).N n).a := by have := nth_mem hjl; rw [hxs] at this ⊢; exact this
  obtain ⟨k, hk⟩ := hn.rt _ hmem
  rw [← hG1] at hk
  have hr := hρ _ (nth_mem hjl)
  have hst := useAll_step (ρ := ρ) (n := n) (U := G1.U) hjl
  generalize hUj : useAll ρ n (xs.take j) G1.U = Uj at *
  have hrU : ρ (nth xs j) < Uj.length := by omega
  have hrU1 : ρ (nth xs j) + 1 ≤ Uj.length := by omega
  have hcap : ((nth Uj (ρ (nth xs j))).length + 1) * 8 ≤ 140737488355328 := by have := hulj (ρ (nth xs j)); omega
  repeat' first | refine w0 ?_ | refine w1 ?_ | ((first | refine w2 ?_ | refine w3 ?_ | refine w4 ?_ | refine w5 ?_); intro K hK; simp (maxSteps := 4000000) +contextual [hjl, hp]; (try (refine finD rfl ?_; simp)); refine hK _ ?_; clear hK K) | ((first | refine w6 rfl ?_ ?_ | refine w7 rfl ?_ ?_) <;> (intro h; replace hp := And.intro h hp; clear h; try simp only [z0, z1, z2, z3, z4, z5, z6, z7, z8, z9, z10, z11, z12] at hp)) | refine w8 ?_ | refine w9 ?_ | refine w10 ?_ | refine w11 ?_ | refine w12 ?_ | refine w13 ?_ | refine w14 ?_ | refine w15 ?_ | refine w16 ?_ | refine w17 ?_ | refine w18 ?_ | refine w19 ?_ | refine w20 ?_ | refine w21 (by decide) ?_ | refine hleave .ret _ (by simp) ?_ | refine hleave (.exit _) _ (by simp) ?_ | refine w22 ?_
  refine c_reg fun K hK => ?_
  simp (maxSteps := 4000000) +contextual [hjl, hp]
  refine callK (root_ok (G := { G1 with U := Uj }) hk) (by simp) ?_
  simp (maxSteps := 4000000) +contextual [hjl, hp]
  refine hK _ ?_
  clear hK K
  repeat' first | refine w0 ?_ | refine w1 ?_ | ((first | refine w2 ?_ | refine w3 ?_ | refine w4 ?_ | refine w5 ?_); intro K hK; simp (maxSteps := 4000000) +contextual [hjl, hrU, hrU1, hcap, hp]; (try (refine finD rfl ?_; simp)); refine hK _ ?_; clear hK K) | ((first | refine w6 rfl ?_ ?_ | refine w7 rfl ?_ ?_) <;> (intro h; replace hp := And.intro h hp; clear h; try simp only [z0, z1, z2, z3, z4, z5, z6, z7, z8, z9, z10, z11, z12] at hp)) | refine w8 ?_ | refine w9 ?_ | refine w10 ?_ | refine w11 ?_ | refine w12 ?_ | refine w13 ?_ | refine w14 ?_ | refine w15 ?_ | refine w16 ?_ | refine w17 ?_ | refine w18 ?_ | refine w19 ?_ | refine w20 ?_ | refine w21 (by decide) ?_ | refine hleave .ret _ (by simp) ?_ | refine hleave (.exit _) _ (by simp) ?_ | refine w22 ?_
  all_goals exact hnext _ (j + 1) (by simp [hw, hst]) hjl (by omega)
 ·have hje : j = xs.length := by omega
  subst hje
  rw [List.take_length] at *
  have hsig : Ok (bs K) 47 [gR, nV n] (gObs { G1 with U := useAll ρ n xs G1.U }) (.str (sigL (nth G.N n) n ρ)) (gObs { G1 with U := useAll ρ n xs G1.U }) [] := by
   rw [← hN1]
   refine sig_ok (G := { G1 with U := useAll ρ n xs G1.U }) ?_ hs ?_ ?_ ?_ ?_
   ·show n < G1.N.length; rw [hN1]; exact hlt
   ·show (nth G1.N n).f.length ≤ _; rw [hN1]; exact hn.f
   ·show (nth G1.N n).a.length ≤ _; rw [hN1]; exact hn.al
   ·show ∀ a ∈ (nth G1.N n).a, ∃ k, Rt G1.P a (ρ a) k; rw [hG1]; exact hn.rt
   ·show ∀ a ∈ (nth G1.N n).a, ρ a ≤ 1000000; rw [hG1]; exact hn.rs
  generalize hU2 : useAll ρ n xs G1.U = U2 at *
  generalize hsg : sigL (nth G.N n) n ρ = s at *
  repeat' first | refine w0 ?_ | refine w1 ?_ | ((first | refine w2 ?_ | refine w3 ?_ | refine w4 ?_ | refine w5 ?_); intro K hK; simp (maxSteps := 4000000) +contextual [hp]; (try (refine finD rfl ?_; simp)); refine hK _ ?_; clear hK K) | ((first | refine w6 rfl ?_ ?_ | refine w7 rfl ?_ ?_) <;> (intro h; replace hp := And.intro h hp; clear h; try simp only [z0, z1, z2, z3, z4, z5, z6, z7, z8, z9, z10, z11, z12] at hp)) | refine w8 ?_ | refine w9 ?_ | refine w10 ?_ | refine w11 ?_ | refine w12 ?_ | refine w13 ?_ | refine w14 ?_ | refine w15 ?_ | refine w16 ?_ | refine w17 ?_ | refine w18 ?_ | refine w19 ?_ | refine w20 ?_ | refine w21 (by decide) ?_ | refine hleave .ret _ (by simp) ?_ | refine hleave (.exit _) _ (by simp) ?_ | refine w22 ?_
  refine c_reg fun K hK => ?_
  simp (maxSteps := 4000000) +contextual [hp]
  refine callK (hsig) (by simp) ?_
  simp (maxSteps := 4000000) +contextual [hp]
  refine hK _ ?_
  clear hK K
  cases h with
  | fresh hlk =>
   rw [hsg, ← hS1] at hlk
   have hf := find_none (i := 0) hlk
   have e : ({ enter1 G n ρ with S := G.S ++ [(sigL (nth G.N n) n ρ, n)] } : GS) = { G1 with U := U2, S := G1.S ++ [(s, n)] } := by
    rw [hsg, ← hU2, hU1, hG1, hxs]; rfl
   rw [e] at hleave ⊢
   repeat' first | refine w0 ?_ | refine w1 ?_ | ((first | refine w2 ?_ | refine w3 ?_ | refine w4 ?_ | refine w5 ?_); intro K hK; simp (maxSteps := 4000000) +contextual [hf, hp]; (try (refine finD rfl ?_; simp)); refine hK _ ?_; clear hK K) | ((first | refine w6 rfl ?_ ?_ | refine w7 rfl ?_ ?_) <;> (intro h; replace hp := And.intro h hp; clear h; try simp only [z0, z1, z2, z3, z4, z5, z6, z7, z8, z9, z10, z11, z12] at hp)) | refine w8 ?_ | refine w9 ?_ | refine w10 ?_ | refine w11 ?_ | refine w12 ?_ | refine w13 ?_ | refine w14 ?_ | refine w15 ?_ | refine w16 ?_ | refine w17 ?_ | refine w18 ?_ | refine w19 ?_ | refine w20 ?_ | refine w21 (by decide) ?_ | refine hleave .ret _ (by simp) ?_ | refine hleave (.exit _) _ (by simp) ?_ | refine w22 ?_
   all_goals simp [EndA]
  | @like o _ k hlk hm =>
   rw [hsg, ← hS1] at hlk
   obtain ⟨i, hf, hi⟩ := find_some (i := 0) hlk
   rw [Nat.zero_add] at hf
   have e : enter1 G n ρ = { G1 with U := U2 } := by
    rw [← hU2, hU1, hG1, hxs]; rfl
   rw [e] at hm
   have hmm := merge_ok (K := K) hm
   repeat' first | refine w0 ?_ | refine w1 ?_ | ((first | refine w2 ?_ | refine w3 ?_ | refine w4 ?_ | refine w5 ?_); intro K hK; simp (maxSteps := 4000000) +contextual [hf, hp]; (try (refine finD rfl ?_; simp)); refine hK _ ?_; clear hK K) | ((first | refine w6 rfl ?_ ?_ | refine w7 rfl ?_ ?_) <;> (intro h; replace hp := And.intro h hp; clear h; try simp only [z0, z1, z2, z3, z4, z5, z6, z7, z8, z9, z10, z11, z12] at hp)) | refine w8 ?_ | refine w9 ?_ | refine w10 ?_ | refine w11 ?_ | refine w12 ?_ | refine w13 ?_ | refine w14 ?_ | refine w15 ?_ | refine w16 ?_ | refine w17 ?_ | refine w18 ?_ | refine w19 ?_ | refine w20 ?_ | refine w21 (by decide) ?_ | refine hleave .ret _ (by simp) ?_ | refine hleave (.exit _) _ (by simp) ?_ | refine w22 ?_
   refine c_reg fun K hK => ?_
   simp (maxSteps := 4000000) +contextual [hp]
   refine callK (hmm) (by simp) ?_
   simp (maxSteps := 4000000) +contextual [hp]
   refine hK _ ?_
   clear hK K
   repeat' first | refine w0 ?_ | refine w1 ?_ | ((first | refine w2 ?_ | refine w3 ?_ | refine w4 ?_ | refine w5 ?_); intro K hK; simp (maxSteps := 4000000) +contextual [hp]; (try (refine finD rfl ?_; simp)); refine hK _ ?_; clear hK K) | ((first | refine w6 rfl ?_ ?_ | refine w7 rfl ?_ ?_) <;> (intro h; replace hp := And.intro h hp; clear h; try simp only [z0, z1, z2, z3, z4, z5, z6, z7, z8, z9, z10, z11, z12] at hp)) | refine w8 ?_ | refine w9 ?_ | refine w10 ?_ | refine w11 ?_ | refine w12 ?_ | refine w13 ?_ | refine w14 ?_ | refine w15 ?_ | refine w16 ?_ | refine w17 ?_ | refine w18 ?_ | refine w19 ?_ | refine w20 ?_ | refine w21 (by decide) ?_ | refine hleave .ret _ (by simp) ?_ | refine hleave (.exit _) _ (by simp) ?_ | refine w22 ?_
   all_goals simp [EndA]
end Go.Proofs.YtjabgfnljbnmmaaDoor
