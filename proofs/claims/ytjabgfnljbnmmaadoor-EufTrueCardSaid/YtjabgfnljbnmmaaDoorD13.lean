/- A part of the proof of a law of this seat: no condition. -/
import Derived.Test.YtjabgfnljbnmmaaDoorEufL23
import Derived.Test.YtjabgfnljbnmmaaDoorEL
import Derived.Test.YtjabgfnljbnmmaaDoorEufD
set_option linter.unusedSimpArgs false
set_option linter.unusedVariables false
set_option maxRecDepth 20000
set_option maxHeartbeats 40000000
namespace Go.Proofs.YtjabgfnljbnmmaaDoor
open Go.Ax
attribute [-simp] List.map_set
def hF (f : List UInt8) (k : Nat) : Nat := f.foldl (fun k b => (k * 7 + b.toNat) % 1009) k
def hA (vals : List Nat) (xs : List Nat) (k : Nat) : Nat := xs.foldl (fun k a => (k * 5 + nth vals a + 1) % 1009) k
def hT (k : Nat) (seed : List Int) : Int := (nth seed (k % seed.length)).tmod 3
def hO (k : Nat) (seed : List Int) : Nat := if seed = [] then k % 2 else (if hT k seed < 0 then hT k seed + 3 else hT k seed).toNat
def valF (x : Nd) (vals : List Nat) (seed : List Int) : Nat := hO (hA vals x.a (hF x.f x.f.length)) seed
theorem take_byte {f : List UInt8} {j : Nat} (h : j < f.length) : f.take (j + 1) = f.take j ++ [byteAt f j] := by
  rw [List.take_add_one]; simp [byteAt, h]
theorem hF_step {f : List UInt8} {k j : Nat} (h : j < f.length) : hF (f.take (j + 1)) k = (hF (f.take j) k * 7 + (byteAt f j).toNat) % 1009 := by
  unfold hF; rw [take_byte h, List.foldl_append]; rfl
theorem hA_step {vals xs : List Nat} {k j : Nat} (h : j < xs.length) : hA vals (xs.take (j + 1)) k = (hA vals (xs.take j) k * 5 + nth vals (nth xs j) + 1) % 1009 := by
  unfold hA; rw [take_nth h, List.foldl_append]; rfl
theorem hT_lt (k : Nat) (seed : List Int) : -3 < hT k seed ∧ hT k seed < 3 := by
  unfold hT
  have h1 := Int.tmod_lt_of_pos (nth seed (k % seed.length)) (b := 3) (by decide)
  have h2 := Int.lt_tmod_of_pos (nth seed (k % seed.length)) (b := 3) (by decide)
  exact ⟨h2, h1⟩
theorem hO_lt (k : Nat) (seed : List Int) : hO k seed ≤ 2 := by
  unfold hO
  have := hT_lt k seed
  split
  · omega
  · split <;> omega
theorem tmodN (a b : Nat) : ((a : Nat) : Int).tmod ((b : Nat) : Int) = ((a % b : Nat) : Int) := rfl
theorem value_ok {B : Heap} {N : List Nd} {E : List (Nat × Nat)} {vals : List Nat} {i : Nat} {seed : List Int} (hi : i < N.length) (hf : (nth N i).f.length ≤ 140737488355328) (ha : ∀ a ∈ (nth N i).a, a < vals.length) (hal : (nth N i).a.length ≤ 1000) (hv : ∀ v ∈ vals, v ≤ 2)
    (hs : seed.length < 9223372036854775808) :
    Ok B 23 [.agg [.slice 2 (N.map ndV), .slice 2 (E.map prV)], .slice 1 (vals.map nV), nV i, .slice 1 (seed.map iV)] [] (nV (valF (nth N i) vals seed)) [] [] := by
  refine k23 ?_
  have hp : True := trivial
  obtain ⟨x, hx⟩ : ∃ x, x = nth N i := ⟨_, rfl⟩
  rw [← hx] at hf ha hal
  have hv0 : valF (nth N i) vals seed = valF x vals seed := by rw [hx]
  rw [hv0]
  repeat' first | refine w0 ?_ | refine w1 ?_ | ((first | refine w2 fun K hK => ?_ | refine w3 fun K hK => ?_ | refine w4 fun K hK => ?_ | refine w5 fun K hK => ?_); simp (maxSteps := 4000000) +contextual [hi, ← hx, hp]; (try (refine finD rfl ?_; simp)); refine hK _ ?_; clear hK K) | ((first | refine w6 rfl (fun h => ?_) (fun h => ?_) | refine w7 rfl (fun h => ?_) (fun h => ?_)) <;> (replace hp := And.intro h hp; clear h; try simp only [z0, z1, z2, z3, z4, z5, z6, z7, z8, z9, z10, z11, z12] at hp)) | refine w8 ?_ | refine w9 ?_ | refine w10 ?_ | refine w11 ?_ | refine w12 ?_ | refine w13 ?_ | refine w14 ?_ | refine w15 ?_ | refine w16 ?_ | refine w17 ?_ | refine w18 ?_ | refine w19 ?_ | refine w20 ?_ | refine w21 (by decide) ?_ | refine hleave .ret _ (by simp) ?_ | refine hleave (.exit _) _ (by simp) ?_ | refine w22 ?_
  refine c_loopI (fun (j : Nat) => (⟨[(1, .slice 1 (vals.map nV)), (3, .slice 1 (seed.map iV)), (9, .ref (.loc 9) 0), (10, nV (hF (x.f.take j) x.f.length)), (11, nV j)], [(.loc 9, .cells false [.str x.f, .slice 1 (x.a.map nV)])]⟩ : St))
    (fun j => j ≤ x.f.length ∧ hF (x.f.take j) x.f.length ≤ 140737488355328) (fun j => x.f.length - j) 0 (by simp [hF]) ⟨Nat.zero_le _, hf⟩ (fun j K' hj hnext hleave => ?_)
  obtain ⟨hj, hk⟩ := hj
  by_cases hjl : j < x.f.length
  · have hw : IntKind.wrap .i64 ((j : Int) + 1) = ((j + 1 : Nat) : Int) := wrapN (by omega) (by omega)
    have hst := hF_step (k := x.f.length) hjl
    generalize hF (x.f.take j) x.f.length = k at *
    have hbt : (byteAt x.f j).toNat < 256 := UInt8.toNat_lt _
    generalize hb : (byteAt x.f j).toNat = b at *
    obtain ⟨k7, hk7⟩ : ∃ k7, k7 = k * 7 := ⟨_, rfl⟩
    obtain ⟨s, hs7⟩ : ∃ s, s = k7 + b := ⟨_, rfl⟩
    have ww1 : IntKind.wrap .i64 ((k : Int) * 7) = (k7 : Int) := wrapN (by omega) (by omega)
    have ww2 : IntKind.wrap .i64 ((k7 : Int) + (b : Int)) = (s : Int) := wrapN (by omega) (by omega)
    have ww3 : IntKind.wrap .i64 (b : Int) = (b : Int) := wrapN rfl (by omega)
    obtain ⟨r, hr⟩ : ∃ r, r = s % 1009 := ⟨_, rfl⟩
    have ww4 : (s : Int).tmod 1009 = (r : Int) := by rw [hr]; exact tmodN s 1009
    have hr2 : hF (x.f.take (j + 1)) x.f.length = r := by rw [hst, hr, hs7, hk7]
    repeat' first | refine w0 ?_ | refine w1 ?_ | ((first | refine w2 fun K hK => ?_ | refine w3 fun K hK => ?_ | refine w4 fun K hK => ?_ | refine w5 fun K hK => ?_); simp (maxSteps := 4000000) +contextual [hjl, hb, ww1, ww2, ww3, ww4, hp]; (try (refine finD rfl ?_; simp)); refine hK _ ?_; clear hK K) | ((first | refine w6 rfl (fun h => ?_) (fun h => ?_) | refine w7 rfl (fun h => ?_) (fun h => ?_)) <;> (replace hp := And.intro h hp; clear h; try simp only [z0, z1, z2, z3, z4, z5, z6, z7, z8, z9, z10, z11, z12] at hp)) | refine w8 ?_ | refine w9 ?_ | refine w10 ?_ | refine w11 ?_ | refine w12 ?_ | refine w13 ?_ | refine w14 ?_ | refine w15 ?_ | refine w16 ?_ | refine w17 ?_ | refine w18 ?_ | refine w19 ?_ | refine w20 ?_ | refine w21 (by decide) ?_ | refine hleave .ret _ (by simp) ?_ | refine hleave (.exit _) _ (by simp) ?_ | refine w22 ?_
    all_goals refine hnext _ (j + 1) (by simp [hw, hr2]) ⟨hjl, by rw [hr2]; omega⟩ (by omega)
  · have hje : j = x.f.length := by omega
    subst hje
    rw [List.take_length] at *
    have hk0 : hF x.f x.f.length = hA vals (x.a.take 0) (hF x.f x.f.length) := rfl
    rw [hk0]
    repeat' first | refine w0 ?_ | refine w1 ?_ | ((first | refine w2 fun K hK => ?_ | refine w3 fun K hK => ?_ | refine w4 fun K hK => ?_ | refine w5 fun K hK => ?_); simp (maxSteps := 4000000) +contextual [hp]; (try (refine finD rfl ?_; simp)); refine hK _ ?_; clear hK K) | ((first | refine w6 rfl (fun h => ?_) (fun h => ?_) | refine w7 rfl (fun h => ?_) (fun h => ?_)) <;> (replace hp := And.intro h hp; clear h; try simp only [z0, z1, z2, z3, z4, z5, z6, z7, z8, z9, z10, z11, z12] at hp)) | refine w8 ?_ | refine w9 ?_ | refine w10 ?_ | refine w11 ?_ | refine w12 ?_ | refine w13 ?_ | refine w14 ?_ | refine w15 ?_ | refine w16 ?_ | refine w17 ?_ | refine w18 ?_ | refine w19 ?_ | refine w20 ?_ | refine w21 (by decide) ?_ | refine hleave .ret _ (by simp) ?_ | refine hleave (.exit _) _ (by simp) ?_ | refine w22 ?_
    refine c_loopI (fun (j : Nat) => (⟨[(1, .slice 1 (vals.map nV)), (3, .slice 1 (seed.map iV)), (9, .ref (.loc 9) 0), (10, nV (hA vals (x.a.take j) (hF x.f x.f.length))), (12, nV j)], [(.loc 9, .cells false [.str x.f, .slice 1 (x.a.map nV)])]⟩ : St))
      (fun j => j ≤ x.a.length ∧ hA vals (x.a.take j) (hF x.f x.f.length) ≤ 140737488355328) (fun j => x.a.length - j) 0 (by simp) ⟨Nat.zero_le _, by simpa [hA] using hk⟩ (fun j K2 hj hnext2 hleave => ?_)
    obtain ⟨hj, hk⟩ := hj
    by_cases hjl : j < x.a.length
    · have hw : IntKind.wrap .i64 ((j : Int) + 1) = ((j + 1 : Nat) : Int) := wrapN (by omega) (by omega)
      have hst := hA_step (vals := vals) (k := hF x.f x.f.length) hjl
      have haj := ha _ (nth_mem hjl)
      have hvj := hv _ (nth_mem haj)
      generalize hA vals (x.a.take j) (hF x.f x.f.length) = k at *
      generalize hb : nth vals (nth x.a j) = b at *
      obtain ⟨k5, hk5⟩ : ∃ k5, k5 = k * 5 := ⟨_, rfl⟩
      obtain ⟨s, hs5⟩ : ∃ s, s = k5 + b := ⟨_, rfl⟩
      obtain ⟨s1, hs1⟩ : ∃ s1, s1 = s + 1 := ⟨_, rfl⟩
      have ww1 : IntKind.wrap .i64 ((k : Int) * 5) = (k5 : Int) := wrapN (by omega) (by omega)
      have ww2 : IntKind.wrap .i64 ((k5 : Int) + (b : Int)) = (s : Int) := wrapN (by omega) (by omega)
      have ww3 : IntKind.wrap .i64 ((s : Int) + 1) = (s1 : Int) := wrapN (by omega) (by omega)
      obtain ⟨r, hr⟩ : ∃ r, r = s1 % 1009 := ⟨_, rfl⟩
      have ww4 : (s1 : Int).tmod 1009 = (r : Int) := by rw [hr]; exact tmodN s1 1009
      have hr2 : hA vals (x.a.take (j + 1)) (hF x.f x.f.length) = r := by rw [hst, hr, hs1, hs5, hk5]
      repeat' first | refine w0 ?_ | refine w1 ?_ | ((first | refine w2 fun K hK => ?_ | refine w3 fun K hK => ?_ | refine w4 fun K hK => ?_ | refine w5 fun K hK => ?_); simp (maxSteps := 4000000) +contextual [hjl, haj, hb, ww1, ww2, ww3, ww4, hp]; (try (refine finD rfl ?_; simp)); refine hK _ ?_; clear hK K) | ((first | refine w6 rfl (fun h => ?_) (fun h => ?_) | refine w7 rfl (fun h => ?_) (fun h => ?_)) <;> (replace hp := And.intro h hp; clear h; try simp only [z0, z1, z2, z3, z4, z5, z6, z7, z8, z9, z10, z11, z12] at hp)) | refine w8 ?_ | refine w9 ?_ | refine w10 ?_ | refine w11 ?_ | refine w12 ?_ | refine w13 ?_ | refine w14 ?_ | refine w15 ?_ | refine w16 ?_ | refine w17 ?_ | refine w18 ?_ | refine w19 ?_ | refine w20 ?_ | refine w21 (by decide) ?_ | refine hleave .ret _ (by simp) ?_ | refine hleave (.exit _) _ (by simp) ?_ | refine w22 ?_
      all_goals refine hnext2 _ (j + 1) (by simp [hw, hr2]) ⟨hjl, by rw [hr2]; omega⟩ (by omega)
    · have hje : j = x.a.length := by omega
      subst hje
      rw [List.take_length] at *
      have hval : valF x vals seed = hO (hA vals x.a (hF x.f x.f.length)) seed := rfl
      generalize hA vals x.a (hF x.f x.f.length) = k at *
      by_cases hse : seed = []
      · subst hse
        have ww5 : (k : Int).tmod 2 = ((k % 2 : Nat) : Int) := tmodN k 2
        have hval2 : valF x vals [] = k % 2 := hval
        obtain ⟨r, hr⟩ : ∃ r, r = k % 2 := ⟨_, rfl⟩
        rw [← hr] at ww5 hval2
        repeat' first | refine w0 ?_ | refine w1 ?_ | ((first | refine w2 fun K hK => ?_ | refine w3 fun K hK => ?_ | refine w4 fun K hK => ?_ | refine w5 fun K hK => ?_); simp (maxSteps := 4000000) +contextual [ww5, hp]; (try (refine finD rfl ?_; simp)); refine hK _ ?_; clear hK K) | ((first | refine w6 rfl (fun h => ?_) (fun h => ?_) | refine w7 rfl (fun h => ?_) (fun h => ?_)) <;> (replace hp := And.intro h hp; clear h; try simp only [z0, z1, z2, z3, z4, z5, z6, z7, z8, z9, z10, z11, z12] at hp)) | refine w8 ?_ | refine w9 ?_ | refine w10 ?_ | refine w11 ?_ | refine w12 ?_ | refine w13 ?_ | refine w14 ?_ | refine w15 ?_ | refine w16 ?_ | refine w17 ?_ | refine w18 ?_ | refine w19 ?_ | refine w20 ?_ | refine w21 (by decide) ?_ | refine hleave .ret _ (by simp) ?_ | refine hleave (.exit _) _ (by simp) ?_ | refine w22 ?_
        all_goals simp [EndA, hval2]
      · have hl : seed.length ≠ 0 := by simpa using hse
        have hl2 : ¬ (seed.length : Int) = 0 := by omega
        obtain ⟨q, hq⟩ : ∃ q, q = k % seed.length := ⟨_, rfl⟩
        have ww5 : (k : Int).tmod (seed.length : Int) = (q : Int) := by rw [hq]; exact tmodN k seed.length
        have hql : q < seed.length := by rw [hq]; exact Nat.mod_lt _ (by omega)
        have ht := hT_lt k seed
        have hte : hT k seed = (nth seed q).tmod 3 := by rw [hq]; rfl
        have hO2 : hO k seed = (if hT k seed < 0 then hT k seed + 3 else hT k seed).toNat := if_neg hse
        generalize hT k seed = t at *
        by_cases hn : t < 0
        · rw [if_pos hn] at hO2
          obtain ⟨r, hr⟩ : ∃ r : Nat, (r : Int) = t + 3 := ⟨(t + 3).toNat, by omega⟩
          have ww6 : IntKind.wrap .i64 (t + 3) = (r : Int) := wrapN hr.symm (by omega)
          have hvr : valF x vals seed = r := by rw [hval, hO2]; omega
          repeat' first | refine w0 ?_ | refine w1 ?_ | ((first | refine w2 fun K hK => ?_ | refine w3 fun K hK => ?_ | refine w4 fun K hK => ?_ | refine w5 fun K hK => ?_); simp (maxSteps := 4000000) +contextual [hl, hl2, ww5, hql, ← hte, hn, ww6, hp]; (try (refine finD rfl ?_; simp)); refine hK _ ?_; clear hK K) | ((first | refine w6 rfl (fun h => ?_) (fun h => ?_) | refine w7 rfl (fun h => ?_) (fun h => ?_)) <;> (replace hp := And.intro h hp; clear h; try simp only [z0, z1, z2, z3, z4, z5, z6, z7, z8, z9, z10, z11, z12] at hp)) | refine w8 ?_ | refine w9 ?_ | refine w10 ?_ | refine w11 ?_ | refine w12 ?_ | refine w13 ?_ | refine w14 ?_ | refine w15 ?_ | refine w16 ?_ | refine w17 ?_ | refine w18 ?_ | refine w19 ?_ | refine w20 ?_ | refine w21 (by decide) ?_ | refine hleave .ret _ (by simp) ?_ | refine hleave (.exit _) _ (by simp) ?_ | refine w22 ?_
          all_goals simp [EndA, hvr]
        · rw [if_neg hn] at hO2
          obtain ⟨r, hr⟩ : ∃ r : Nat, (r : Int) = t := ⟨t.toNat, by omega⟩
          have hvr : valF x vals seed = r := by rw [hval, hO2]; omega
          subst hr
          repeat' first | refine w0 ?_ | refine w1 ?_ | ((first | refine w2 fun K hK => ?_ | refine w3 fun K hK => ?_ | refine w4 fun K hK => ?_ | refine w5 fun K hK => ?_); simp (maxSteps := 4000000) +contextual [hl, hl2, ww5, hql, ← hte, hn, hp]; (try (refine finD rfl ?_; simp)); refine hK _ ?_; clear hK K) | ((first | refine w6 rfl (fun h => ?_) (fun h => ?_) | refine w7 rfl (fun h => ?_) (fun h => ?_)) <;> (replace hp := And.intro h hp; clear h; try simp only [z0, z1, z2, z3, z4, z5, z6, z7, z8, z9, z10, z11, z12] at hp)) | refine w8 ?_ | refine w9 ?_ | refine w10 ?_ | refine w11 ?_ | refine w12 ?_ | refine w13 ?_ | refine w14 ?_ | refine w15 ?_ | refine w16 ?_ | refine w17 ?_ | refine w18 ?_ | refine w19 ?_ | refine w20 ?_ | refine w21 (by decide) ?_ | refine hleave .ret _ (by simp) ?_ | refine hleave (.exit _) _ (by simp) ?_ | refine w22 ?_
          all_goals simp [EndA, hvr]
end Go.Proofs.YtjabgfnljbnmmaaDoor
