/- A part of the proof of a law of this seat: no condition. -/
import Derived.Test.YtjabgfnljbnmmaaDoorE3
set_option linter.unusedSimpArgs false
set_option linter.unusedVariables false
set_option maxRecDepth 20000
set_option maxHeartbeats 20000000
namespace Go.Proofs.YtjabgfnljbnmmaaDoor
open Go.Ax
attribute [-simp] List.map_set
structure Pr where
 a : Nat
 b : Nat
 why : Int
 deriving Inhabited
abbrev pairV (p : Pr) : V := .agg [nV p.a, nV p.b, .int .i64 p.why]
abbrev SO := List (List UInt8 × Nat) × List Pr
/-- One term whose signature changed. -/
def mvStep (N : List Nd) (ρ : Nat → Nat) (p : SO) (u : Nat) : SO :=
 match lk p.1 (sigL (nth N u) u ρ) with
 | some o => if o = u then p else (p.1, if ρ o = ρ u then p.2 else p.2 ++ [⟨u, o, -1⟩])
 | none => (p.1 ++ [(sigL (nth N u) u ρ, u)], p.2)
def mvAll (N : List Nd) (ρ : Nat → Nat) (us : List Nat) (S : List (List UInt8 × Nat)) : SO := us.foldl (mvStep N ρ) (S, [])
theorem mvAll_step {N ρ S us j} (h : j < us.length) : mvAll N ρ (us.take (j + 1)) S = mvStep N ρ (mvAll N ρ (us.take j) S) (nth us j) := by
 simp [mvAll, take_nth h]
/-- What a walk over nodes needs of them. -/
structure NOk (G : GS) (ρ : Nat → Nat) (u : Nat) : Prop where
 lt : u < G.N.length
 small : u ≤ 1000000
 f : (nth G.N u).f.length ≤ 140737488355328
 al : (nth G.N u).a.length ≤ 100000
 rt : ∀ a ∈ (nth G.N u).a, ∃ k, Rt G.P a (ρ a) k
 rs : ∀ a ∈ (nth G.N u).a, ρ a ≤ 1000000
theorem mvAll_mem {N ρ S} : ∀ {us : List Nat} {p : List UInt8 × Nat}, p ∈ (mvAll N ρ us S).1 → p ∈ S ∨ p.2 ∈ us := by
 have key : ∀ (us : List Nat) (q : SO) (p : List UInt8 × Nat), p ∈ (us.foldl (mvStep N ρ) q).1 → p ∈ q.1 ∨ p.2 ∈ us := by
  intro us
  induction us with
  | nil => intro q p h; exact .inl h
  | cons u us ih =>
   intro q p h
   rcases ih _ _ h with h1 | h1
   ·unfold mvStep at h1
    split at h1
    ·split at h1 <;> exact .inl h1
    ·rcases List.mem_append.1 h1 with h1 | h1
     ·exact .inl h1
     ·simp at h1; right; rw [h1]; simp
   ·right; simp [h1]
 intro us p h
 exact key us (S, []) p h
theorem mvAll_len {N ρ S} : ∀ {us : List Nat}, (mvAll N ρ us S).2.length ≤ us.length := by
 have key : ∀ (us : List Nat) (q : SO), (us.foldl (mvStep N ρ) q).2.length ≤ q.2.length + us.length := by
  intro us
  induction us with
  | nil => intro q; simp
  | cons u us ih =>
   intro q
   have h1 := ih (mvStep N ρ q u)
   have h2 : (mvStep N ρ q u).2.length ≤ q.2.length + 1 := by
    unfold mvStep
    split
    ·split
     ·omega
     ·simp only; split <;> simp
    ·simp
   simp only [List.foldl_cons, List.length_cons]
   omega
 intro us
 have := key us (S, [])
 unfold mvAll
 simpa using this
theorem moved_ok {K} {G : GS} {x y : Nat} {ρ : Nat → Nat} (hx : x < G.U.length) (hy : y < G.U.length) (hxy : x ≠ y) (hu : ∀ u ∈ nth G.U x, NOk G ρ u ∧ ∃ k, Rt G.P u (ρ u) k)
  (hS : ∀ p ∈ G.S, ∃ k, Rt G.P p.2 (ρ p.2) k) (hl1 : (nth G.U x).length ≤ 100000000) (hl2 : (nth G.U y).length ≤ 100000000) :
  Ok (bs K) 49 [gR, nV x, nV y] (gObs G) (.own 3 ((mvAll G.N ρ (nth G.U x) G.S).2.map pairV))
   (gObs { G with S := (mvAll G.N ρ (nth G.U x) G.S).1, U := (G.U.set y (nth G.U y ++ nth G.U x)).set x [] }) [] := by
 obtain ⟨us, hus⟩ : ∃ us, us = nth G.U x := ⟨_, rfl⟩
 rw [← hus] at hu hl1 ⊢
 refine k49 ?_
 have hp : True := trivial
 repeat' first | refine w0 ?_ | refine w1 ?_ | ((first | refine w2 ?_ | refine w3 ?_ | refine w4 ?_ | refine w5 ?_); intro K hK; simp (maxSteps := 4000000) +contextual [hx, ← hus, hp]; (try (refine finD rfl ?_; simp)); refine hK _ ?_; clear hK K) | ((first | refine w6 rfl ?_ ?_ | refine w7 rfl ?_ ?_) <;> (intro h; replace hp := And.intro h hp; clear h; try simp only [z0, z1, z2, z3, z4, z5, z6, z7, z8, z9, z10, z11, z12] at hp)) | refine w8 ?_ | refine w9 ?_ | refine w10 ?_ | refine w11 ?_ | refine w12 ?_ | refine w13 ?_ | refine w14 ?_ | refine w15 ?_ | refine w16 ?_ | refine w17 ?_ | refine w18 ?_ | refine w19 ?_ | refine w20 ?_ | refine w21 (by decide) ?_ | refine hleave .ret _ (by simp) ?_ | refine hleave (.exit _) _ (by simp) ?_ | refine w22 ?_
 refine c_loopI (fun (j : Nat) => (⟨[(0, gR), (1, nV x), (2, nV y), (7, .own 3 ((mvAll G.N ρ (us.take j) G.S).2.map pairV)), (19, .slice 1 (us.map nV)), (20, nV us.length), (21, nV j)],
  gIn { G with S := (mvAll G.N ρ (us.take j) G.S).1 }⟩ : St)) (fun j => j ≤ us.length) (fun j => us.length - j) 0 (by simp [mvAll]) (Nat.zero_le _) (fun j K' hj hnext hleave => ?_)
 by_cases hjl : j < us.length
 ·have hw : IntKind.wrap .i64 ((j : Int) + 1) = ((j + 1 : Nat) : Int) := wrapN (by omega) (by omega)
  have hm := mvAll_step (N := G.N) (ρ := ρ) (S := G.S) hjl
  have hmem : ∀ p ∈ (mvAll G.N ρ (us.take j) G.S).1, ∃ k, Rt G.P p.2 (ρ p.2) k := fun p hp => by
   rcases mvAll_mem hp with h | h
   ·exact hS p h
   ·exact (hu _ (List.mem_of_mem_take h)).2
  have hlen := mvAll_len (N := G.N) (ρ := ρ) (S := G.S) (us := us.take j)
  rw [List.length_take] at hlen
  have hb : (mvAll G.N ρ (us.take j) G.S).2.length + 1 ≤ 5864062014805 := by omega
  obtain ⟨hok, ku, hku⟩ := hu _ (nth_mem hjl)
  generalize hSO : mvAll G.N ρ (us.take j) G.S = so at *
  obtain ⟨S, out⟩ := so
  simp only at hmem hlen hb
  obtain ⟨s, hs⟩ : ∃ s, s = sigL (nth G.N (nth us j)) (nth us j) ρ := ⟨_, rfl⟩
  have hsig : Ok (bs K) 47 [gR, nV (nth us j)] (gObs { G with S := S }) (.str s) (gObs { G with S := S }) [] := by
   rw [hs]; exact sig_ok (G := { G with S := S }) hok.lt hok.small hok.f hok.al hok.rt hok.rs
  repeat' first | refine w0 ?_ | refine w1 ?_ | ((first | refine w2 ?_ | refine w3 ?_ | refine w4 ?_ | refine w5 ?_); intro K hK; simp (maxSteps := 4000000) +contextual [hjl, hp]; (try (refine finD rfl ?_; simp)); refine hK _ ?_; clear hK K) | ((first | refine w6 rfl ?_ ?_ | refine w7 rfl ?_ ?_) <;> (intro h; replace hp := And.intro h hp; clear h; try simp only [z0, z1, z2, z3, z4, z5, z6, z7, z8, z9, z10, z11, z12] at hp)) | refine w8 ?_ | refine w9 ?_ | refine w10 ?_ | refine w11 ?_ | refine w12 ?_ | refine w13 ?_ | refine w14 ?_ | refine w15 ?_ | refine w16 ?_ | refine w17 ?_ | refine w18 ?_ | refine w19 ?_ | refine w20 ?_ | refine w21 (by decide) ?_ | refine hleave .ret _ (by simp) ?_ | refine hleave (.exit _) _ (by simp) ?_ | refine w22 ?_
  refine c_reg fun K hK => ?_
  simp (maxSteps := 4000000) +contextual [hjl, hp]
  refine callK (hsig) (by simp) ?_
  simp (maxSteps := 4000000) +contextual [hjl, hp]
  refine hK _ ?_
  clear hK K
  cases hlk : lk S s with
  | none =>
   have hf := find_none (i := 0) hlk
   repeat' first | refine w0 ?_ | refine w1 ?_ | ((first | refine w2 ?_ | refine w3 ?_ | refine w4 ?_ | refine w5 ?_); intro K hK; simp (maxSteps := 4000000) +contextual [hf, hp]; (try (refine finD rfl ?_; simp)); refine hK _ ?_; clear hK K) | ((first | refine w6 rfl ?_ ?_ | refine w7 rfl ?_ ?_) <;> (intro h; replace hp := And.intro h hp; clear h; try simp only [z0, z1, z2, z3, z4, z5, z6, z7, z8, z9, z10, z11, z12] at hp)) | refine w8 ?_ | refine w9 ?_ | refine w10 ?_ | refine w11 ?_ | refine w12 ?_ | refine w13 ?_ | refine w14 ?_ | refine w15 ?_ | refine w16 ?_ | refine w17 ?_ | refine w18 ?_ | refine w19 ?_ | refine w20 ?_ | refine w21 (by decide) ?_ | refine hleave .ret _ (by simp) ?_ | refine hleave (.exit _) _ (by simp) ?_ | refine w22 ?_
   exact hnext _ (j + 1) (by simp [hw, hm, mvStep, ← hs, hlk]) hjl (by omega)
  | some o =>
   obtain ⟨i, hf, hi⟩ := find_some (i := 0) hlk
   rw [Nat.zero_add] at hf
   by_cases ho : o = nth us j
   ·have hps := put_same hi
    rw [ho] at hf hps
    have ho2 : ((o : Nat) : Int) = ((nth us j : Nat) : Int) := by rw [ho]
    repeat' first | refine w0 ?_ | refine w1 ?_ | ((first | refine w2 ?_ | refine w3 ?_ | refine w4 ?_ | refine w5 ?_); intro K hK; simp (maxSteps := 4000000) +contextual [hf, setS, hps, hp]; (try (refine finD rfl ?_; simp)); refine hK _ ?_; clear hK K) | ((first | refine w6 rfl ?_ ?_ | refine w7 rfl ?_ ?_) <;> (intro h; replace hp := And.intro h hp; clear h; try simp only [z0, z1, z2, z3, z4, z5, z6, z7, z8, z9, z10, z11, z12] at hp)) | refine w8 ?_ | refine w9 ?_ | refine w10 ?_ | refine w11 ?_ | refine w12 ?_ | refine w13 ?_ | refine w14 ?_ | refine w15 ?_ | refine w16 ?_ | refine w17 ?_ | refine w18 ?_ | refine w19 ?_ | refine w20 ?_ | refine w21 (by decide) ?_ | refine hleave .ret _ (by simp) ?_ | refine hleave (.exit _) _ (by simp) ?_ | refine w22 ?_
    refine hnext _ (j + 1) (by simp [hw, hm, mvStep, ← hs, hlk, ho]) hjl (by omega)
   ·have ho2 : ¬ ((o : Nat) : Int) = ((nth us j : Nat) : Int) := by omega
    obtain ⟨ko, hko⟩ := hmem _ (lk_mem hlk)
    repeat' first | refine w0 ?_ | refine w1 ?_ | ((first | refine w2 ?_ | refine w3 ?_ | refine w4 ?_ | refine w5 ?_); intro K hK; simp (maxSteps := 4000000) +contextual [hf, ho, ho2, hp]; (try (refine finD rfl ?_; simp)); refine hK _ ?_; clear hK K) | ((first | refine w6 rfl ?_ ?_ | refine w7 rfl ?_ ?_) <;> (intro h; replace hp := And.intro h hp; clear h; try simp only [z0, z1, z2, z3, z4, z5, z6, z7, z8, z9, z10, z11, z12] at hp)) | refine w8 ?_ | refine w9 ?_ | refine w10 ?_ | refine w11 ?_ | refine w12 ?_ | refine w13 ?_ | refine w14 ?_ | refine w15 ?_ | refine w16 ?_ | refine w17 ?_ | refine w18 ?_ | refine w19 ?_ | refine w20 ?_ | refine w21 (by decide) ?_ | refine hleave .ret _ (by simp) ?_ | refine hleave (.exit _) _ (by simp) ?_ | refine w22 ?_
    refine c_reg fun K hK => ?_
    simp (maxSteps := 4000000) +contextual [ho, ho2, hp]
    refine callK (root_ok (G := { G with S := S }) hko) (by simp) ?_
    simp (maxSteps := 4000000) +contextual [ho, ho2, hp]
    refine callK (root_ok (G := { G with S := S }) hku) (by simp) ?_
    simp (maxSteps := 4000000) +contextual [ho, ho2, hp]
    refine hK _ ?_
    clear hK K
    by_cases hro : ρ o = ρ (nth us j)
    ·have hro2 : ((ρ o : Nat) : Int) = ((ρ (nth us j) : Nat) : Int) := by rw [hro]
     repeat' first | refine w0 ?_ | refine w1 ?_ | ((first | refine w2 ?_ | refine w3 ?_ | refine w4 ?_ | refine w5 ?_); intro K hK; simp (maxSteps := 4000000) +contextual [hro, hro2, hp]; (try (refine finD rfl ?_; simp)); refine hK _ ?_; clear hK K) | ((first | refine w6 rfl ?_ ?_ | refine w7 rfl ?_ ?_) <;> (intro h; replace hp := And.intro h hp; clear h; try simp only [z0, z1, z2, z3, z4, z5, z6, z7, z8, z9, z10, z11, z12] at hp)) | refine w8 ?_ | refine w9 ?_ | refine w10 ?_ | refine w11 ?_ | refine w12 ?_ | refine w13 ?_ | refine w14 ?_ | refine w15 ?_ | refine w16 ?_ | refine w17 ?_ | refine w18 ?_ | refine w19 ?_ | refine w20 ?_ | refine w21 (by decide) ?_ | refine hleave .ret _ (by simp) ?_ | refine hleave (.exit _) _ (by simp) ?_ | refine w22 ?_
     ·exfalso; exact hp.1 hro2
     exact hnext _ (j + 1) (by simp [hw, hm, mvStep, ← hs, hlk, ho, hro]) hjl (by omega)
    ·have hro2 : ¬ ((ρ o : Nat) : Int) = ((ρ (nth us j) : Nat) : Int) := by omega
     have hb2 : (out.length + 1) * 24 ≤ 140737488355328 := by omega
     repeat' first | refine w0 ?_ | refine w1 ?_ | ((first | refine w2 ?_ | refine w3 ?_ | refine w4 ?_ | refine w5 ?_); intro K hK; simp (maxSteps := 4000000) +contextual [hro, hro2, hb2, hp]; (try (refine finD rfl ?_; simp)); refine hK _ ?_; clear hK K) | ((first | refine w6 rfl ?_ ?_ | refine w7 rfl ?_ ?_) <;> (intro h; replace hp := And.intro h hp; clear h; try simp only [z0, z1, z2, z3, z4, z5, z6, z7, z8, z9, z10, z11, z12] at hp)) | refine w8 ?_ | refine w9 ?_ | refine w10 ?_ | refine w11 ?_ | refine w12 ?_ | refine w13 ?_ | refine w14 ?_ | refine w15 ?_ | refine w16 ?_ | refine w17 ?_ | refine w18 ?_ | refine w19 ?_ | refine w20 ?_ | refine w21 (by decide) ?_ | refine hleave .ret _ (by simp) ?_ | refine hleave (.exit _) _ (by simp) ?_ | refine w22 ?_
     ·exact hnext _ (j + 1) (by simp [hw, hm, mvStep, ← hs, hlk, ho, hro]) hjl (by omega)
     ·exfalso; exact hro2 hp.1
 ·have hje : j = us.length := by omega
  subst hje
  rw [List.take_length]
  have hyx : y ≠ x := fun e => hxy e.symm
  have hb3 : ((nth G.U y).length + us.length) * 8 ≤ 140737488355328 := by omega
  have hx1 : x + 1 ≤ G.U.length := hx
  have hy1 : y + 1 ≤ G.U.length := hy
  repeat' first | refine w0 ?_ | refine w1 ?_ | ((first | refine w2 ?_ | refine w3 ?_ | refine w4 ?_ | refine w5 ?_); intro K hK; simp (maxSteps := 4000000) +contextual [hx, hy, hxy, hyx, hx1, hy1, ← hus, hb3, hp]; (try (refine finD rfl ?_; simp)); refine hK _ ?_; clear hK K) | ((first | refine w6 rfl ?_ ?_ | refine w7 rfl ?_ ?_) <;> (intro h; replace hp := And.intro h hp; clear h; try simp only [z0, z1, z2, z3, z4, z5, z6, z7, z8, z9, z10, z11, z12] at hp)) | refine w8 ?_ | refine w9 ?_ | refine w10 ?_ | refine w11 ?_ | refine w12 ?_ | refine w13 ?_ | refine w14 ?_ | refine w15 ?_ | refine w16 ?_ | refine w17 ?_ | refine w18 ?_ | refine w19 ?_ | refine w20 ?_ | refine w21 (by decide) ?_ | refine hleave .ret _ (by simp) ?_ | refine hleave (.exit _) _ (by simp) ?_ | refine w22 ?_
  all_goals simp [EndA]
end Go.Proofs.YtjabgfnljbnmmaaDoor
