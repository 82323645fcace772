/- A part of the proof of a law of this seat: no condition. -/
import Derived.Test.YtjabgfnljbnmmaaDoorE2
set_option linter.unusedSimpArgs false
set_option linter.unusedVariables false
set_option maxRecDepth 20000
set_option maxHeartbeats 8000000
namespace Go.Proofs.YtjabgfnljbnmmaaDoor
open Go.Ax
theorem itoa_ok {K} {n : Nat} (h : n ≤ 9223372036854775807) : Ok (bs K) 46 [nV n] [] (.str (itoa n)) [] [] :=
 fn46 _ _ _ _ _ (by simp [sp46]; omega)
def sigL (x : Nd) (n : Nat) (ρ : Nat → Nat) : List UInt8 := if x.a = [] then keyL x.f [] ++ 33 :: itoa n else keyL x.f (x.a.map ρ)
def rowZ (ρ : Nat → Nat) (l : List Nat) (j : Nat) : List Nat := (l.take j).map ρ ++ List.replicate (l.length - j) 0
theorem rowZ_len {ρ l j} (h : j ≤ l.length) : (rowZ ρ l j).length = l.length := by simp [rowZ]; omega
theorem rowZ_set {ρ : Nat → Nat} {l : List Nat} {j : Nat} (h : j < l.length) : (rowZ ρ l j).set j (ρ (nth l j)) = rowZ ρ l (j + 1) := by
 unfold rowZ
 obtain ⟨k, hk⟩ : ∃ k, l.length - j = k + 1 := ⟨l.length - j - 1, by omega⟩
 rw [hk, show l.length - (j + 1) = k by omega, List.set_append_right _ _ (by simp; omega), take_nth h]
 simp [List.replicate_succ, show min j l.length = j by omega]
attribute [-simp] List.map_set
theorem flatZ (n : Nat) (v : V) : (List.replicate n [v]).flatten = List.replicate n v := by
 induction n with
 | zero => rfl
 | succ n ih => simp [List.replicate_succ, ih]
theorem sig_ok {K} {G : GS} {at_ : Nat} {ρ : Nat → Nat} (hat : at_ < G.N.length) (hat2 : at_ ≤ 1000000) (hf : (nth G.N at_).f.length ≤ 140737488355328) (hl : (nth G.N at_).a.length ≤ 100000)
  (hρ : ∀ a ∈ (nth G.N at_).a, ∃ k, Rt G.P a (ρ a) k) (hρ2 : ∀ a ∈ (nth G.N at_).a, ρ a ≤ 1000000) : Ok (bs K) 47 [gR, nV at_] (gObs G) (.str (sigL (nth G.N at_) at_ ρ)) (gObs G) [] := by
 obtain ⟨x, hx⟩ : ∃ x, x = nth G.N at_ := ⟨_, rfl⟩
 rw [← hx] at hf hl hρ hρ2 ⊢
 refine k47 ?_
 have hp : True := trivial
 by_cases ha : x.a = []
 ·have h0 : (x.a.map nV) = [] := by rw [ha]; rfl
  have hk := keyL_len (f := x.f) (xs := []) hf (by simp)
  simp at hk
  have hi := itoa_len (n := at_) (by omega)
  have hk1 : (keyL x.f []).length + 1 ≤ 1000000000000000000 := by omega
  have hk2 : (keyL x.f []).length + 1 + (itoa at_).length ≤ 1000000000000000000 := by omega
  have hk3 : (keyL x.f []).length + ((itoa at_).length + 1) ≤ 1000000000000000000 := by omega
  repeat' first | refine w0 ?_ | refine w1 ?_ | ((first | refine w2 ?_ | refine w3 ?_ | refine w4 ?_ | refine w5 ?_); intro K hK; simp (maxSteps := 4000000) +contextual [hat, ← hx, ha, hp]; (try (refine finD rfl ?_; simp)); refine hK _ ?_; clear hK K) | ((first | refine w6 rfl ?_ ?_ | refine w7 rfl ?_ ?_) <;> (intro h; replace hp := And.intro h hp; clear h; try simp only [z0, z1, z2, z3, z4, z5, z6, z7, z8, z9, z10, z11, z12] at hp)) | refine w8 ?_ | refine w9 ?_ | refine w10 ?_ | refine w11 ?_ | refine w12 ?_ | refine w13 ?_ | refine w14 ?_ | refine w15 ?_ | refine w16 ?_ | refine w17 ?_ | refine w18 ?_ | refine w19 ?_ | refine w20 ?_ | refine w21 (by decide) ?_ | refine hleave .ret _ (by simp) ?_ | refine hleave (.exit _) _ (by simp) ?_ | refine w22 ?_
  refine s_reg fun K hK => ?_
  simp (maxSteps := 4000000) +contextual [hat, ← hx, ha, hk1, hk2, hk3, hp]
  refine callK (key_ok (xs := []) hf (by simp) (by simp)) (by simp) ?_
  simp (maxSteps := 4000000) +contextual [hat, ← hx, ha, hk1, hk2, hk3, hp]
  refine callK (itoa_ok (n := at_) (by omega)) (by simp) ?_
  simp (maxSteps := 4000000) +contextual [hat, ← hx, ha, hk1, hk2, hk3, hp]
  refine hK _ ?_
  clear hK K
  repeat' first | refine w0 ?_ | refine w1 ?_ | ((first | refine w2 ?_ | refine w3 ?_ | refine w4 ?_ | refine w5 ?_); intro K hK; simp (maxSteps := 4000000) +contextual [hp]; (try (refine finD rfl ?_; simp)); refine hK _ ?_; clear hK K) | ((first | refine w6 rfl ?_ ?_ | refine w7 rfl ?_ ?_) <;> (intro h; replace hp := And.intro h hp; clear h; try simp only [z0, z1, z2, z3, z4, z5, z6, z7, z8, z9, z10, z11, z12] at hp)) | refine w8 ?_ | refine w9 ?_ | refine w10 ?_ | refine w11 ?_ | refine w12 ?_ | refine w13 ?_ | refine w14 ?_ | refine w15 ?_ | refine w16 ?_ | refine w17 ?_ | refine w18 ?_ | refine w19 ?_ | refine w20 ?_ | refine w21 (by decide) ?_ | refine hleave .ret _ (by simp) ?_ | refine hleave (.exit _) _ (by simp) ?_ | refine w22 ?_
  simp [EndA, sigL, ha]
 ·have hl0 : 0 < x.a.length := by cases hh : x.a with | nil => exact absurd hh ha | cons => simp
  have hl1 : ¬ x.a.length = 0 := by omega
  have hl2 : ¬ (x.a.length : Int) = 0 := by omega
  have hl3 : (x.a.length : Int) * 8 ≤ 140737488355328 := by omega
  repeat' first | refine w0 ?_ | refine w1 ?_ | ((first | refine w2 ?_ | refine w3 ?_ | refine w4 ?_ | refine w5 ?_); intro K hK; simp (maxSteps := 4000000) +contextual [hat, ← hx, ha, hl1, hl2, hl3, flatZ, hp]; (try (refine finD rfl ?_; simp)); refine hK _ ?_; clear hK K) | ((first | refine w6 rfl ?_ ?_ | refine w7 rfl ?_ ?_) <;> (intro h; replace hp := And.intro h hp; clear h; try simp only [z0, z1, z2, z3, z4, z5, z6, z7, z8, z9, z10, z11, z12] at hp)) | refine w8 ?_ | refine w9 ?_ | refine w10 ?_ | refine w11 ?_ | refine w12 ?_ | refine w13 ?_ | refine w14 ?_ | refine w15 ?_ | refine w16 ?_ | refine w17 ?_ | refine w18 ?_ | refine w19 ?_ | refine w20 ?_ | refine w21 (by decide) ?_ | refine hleave .ret _ (by simp) ?_ | refine hleave (.exit _) _ (by simp) ?_ | refine w22 ?_
  have e0 : List.replicate x.a.length (V.int .i64 0) = (rowZ ρ x.a 0).map nV := by simp [rowZ]
  rw [e0]
  refine c_loopI (fun (j : Nat) => (⟨[(0, gR), (5, .ref (.loc 5) 0), (6, .sl 1 (.loc 30) x.a.length), (32, .slice 1 (x.a.map nV)), (33, nV x.a.length), (34, nV j)],
   gIn G ++ [(.loc 5, .cells false [.str x.f, .slice 1 (x.a.map nV)]), (.loc 30, .cells true ((rowZ ρ x.a j).map nV))]⟩ : St)) (fun j => j ≤ x.a.length) (fun j => x.a.length - j) 0 (by simp) (Nat.zero_le _) (fun j K' hj hnext hleave => ?_)
  have hrl := rowZ_len (ρ := ρ) hj
  by_cases hjl : j < x.a.length
  ·obtain ⟨k, hk⟩ := hρ _ (nth_mem hjl)
   have hw : IntKind.wrap .i64 ((j : Int) + 1) = ((j + 1 : Nat) : Int) := wrapN (by omega) (by omega)
   have hst := rowZ_set (ρ := ρ) hjl
   have hj1 : j + 1 ≤ x.a.length := hjl
   repeat' first | refine w0 ?_ | refine w1 ?_ | ((first | refine w2 ?_ | refine w3 ?_ | refine w4 ?_ | refine w5 ?_); intro K hK; simp (maxSteps := 4000000) +contextual [hjl, hp]; (try (refine finD rfl ?_; simp)); refine hK _ ?_; clear hK K) | ((first | refine w6 rfl ?_ ?_ | refine w7 rfl ?_ ?_) <;> (intro h; replace hp := And.intro h hp; clear h; try simp only [z0, z1, z2, z3, z4, z5, z6, z7, z8, z9, z10, z11, z12] at hp)) | refine w8 ?_ | refine w9 ?_ | refine w10 ?_ | refine w11 ?_ | refine w12 ?_ | refine w13 ?_ | refine w14 ?_ | refine w15 ?_ | refine w16 ?_ | refine w17 ?_ | refine w18 ?_ | refine w19 ?_ | refine w20 ?_ | refine w21 (by decide) ?_ | refine hleave .ret _ (by simp) ?_ | refine hleave (.exit _) _ (by simp) ?_ | refine w22 ?_
   refine c_reg fun K hK => ?_
   simp (maxSteps := 4000000) +contextual [hjl, hrl, hst, hj1, hp]
   refine callK (root_ok hk) (by simp) ?_
   simp (maxSteps := 4000000) +contextual [hjl, hrl, hst, hj1, hp]
   refine hK _ ?_
   clear hK K
   repeat' first | refine w0 ?_ | refine w1 ?_ | ((first | refine w2 ?_ | refine w3 ?_ | refine w4 ?_ | refine w5 ?_); intro K hK; simp (maxSteps := 4000000) +contextual [hjl, hp]; (try (refine finD rfl ?_; simp)); refine hK _ ?_; clear hK K) | ((first | refine w6 rfl ?_ ?_ | refine w7 rfl ?_ ?_) <;> (intro h; replace hp := And.intro h hp; clear h; try simp only [z0, z1, z2, z3, z4, z5, z6, z7, z8, z9, z10, z11, z12] at hp)) | refine w8 ?_ | refine w9 ?_ | refine w10 ?_ | refine w11 ?_ | refine w12 ?_ | refine w13 ?_ | refine w14 ?_ | refine w15 ?_ | refine w16 ?_ | refine w17 ?_ | refine w18 ?_ | refine w19 ?_ | refine w20 ?_ | refine w21 (by decide) ?_ | refine hleave .ret _ (by simp) ?_ | refine hleave (.exit _) _ (by simp) ?_ | refine w22 ?_
   refine hnext _ (j + 1) (by simp [hw]) hjl (by omega)
  ·have hje : j = x.a.length := by omega
   subst hje
   have e1 : (rowZ ρ x.a x.a.length).map nV = (x.a.map ρ).map nV := by simp [rowZ]
   rw [e1]
   have hsig : keyL x.f (x.a.map ρ) = sigL x at_ ρ := by simp [sigL, ha]
   have hmem : ∀ a ∈ x.a.map ρ, a ≤ 9223372036854775807 := fun a h => by obtain ⟨y, hy, rfl⟩ := List.mem_map.1 h; have := hρ2 y hy; omega
   have hlen : x.a.length = (x.a.map ρ).length := by simp
   have hyl : (x.a.map ρ).length ≤ 1000000 := by simp; omega
   rw [← hsig] at hleave
   generalize x.a.map ρ = ys at *
   repeat' first | refine w0 ?_ | refine w1 ?_ | ((first | refine w2 ?_ | refine w3 ?_ | refine w4 ?_ | refine w5 ?_); intro K hK; simp (maxSteps := 4000000) +contextual [hp]; (try (refine finD rfl ?_; simp)); refine hK _ ?_; clear hK K) | ((first | refine w6 rfl ?_ ?_ | refine w7 rfl ?_ ?_) <;> (intro h; replace hp := And.intro h hp; clear h; try simp only [z0, z1, z2, z3, z4, z5, z6, z7, z8, z9, z10, z11, z12] at hp)) | refine w8 ?_ | refine w9 ?_ | refine w10 ?_ | refine w11 ?_ | refine w12 ?_ | refine w13 ?_ | refine w14 ?_ | refine w15 ?_ | refine w16 ?_ | refine w17 ?_ | refine w18 ?_ | refine w19 ?_ | refine w20 ?_ | refine w21 (by decide) ?_ | refine hleave .ret _ (by simp) ?_ | refine hleave (.exit _) _ (by simp) ?_ | refine w22 ?_
   refine s_reg fun K hK => ?_
   simp (maxSteps := 4000000) +contextual [hlen, hp]
   refine callK (key_ok2 (f := x.f) (xs := ys) hf hyl hmem) (by simp) ?_
   simp (maxSteps := 4000000) +contextual [hlen, hp]
   refine hK _ ?_
   clear hK K
   repeat' first | refine w0 ?_ | refine w1 ?_ | ((first | refine w2 ?_ | refine w3 ?_ | refine w4 ?_ | refine w5 ?_); intro K hK; simp (maxSteps := 4000000) +contextual [hp]; (try (refine finD rfl ?_; simp)); refine hK _ ?_; clear hK K) | ((first | refine w6 rfl ?_ ?_ | refine w7 rfl ?_ ?_) <;> (intro h; replace hp := And.intro h hp; clear h; try simp only [z0, z1, z2, z3, z4, z5, z6, z7, z8, z9, z10, z11, z12] at hp)) | refine w8 ?_ | refine w9 ?_ | refine w10 ?_ | refine w11 ?_ | refine w12 ?_ | refine w13 ?_ | refine w14 ?_ | refine w15 ?_ | refine w16 ?_ | refine w17 ?_ | refine w18 ?_ | refine w19 ?_ | refine w20 ?_ | refine w21 (by decide) ?_ | refine hleave .ret _ (by simp) ?_ | refine hleave (.exit _) _ (by simp) ?_ | refine w22 ?_
   simp [EndA]
end Go.Proofs.YtjabgfnljbnmmaaDoor
