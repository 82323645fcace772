/- A part of the proof of a law of this seat: no condition. -/
import Derived.Test.YtjabgfnljbnmmaaDoorEL
set_option linter.unusedSimpArgs false
set_option linter.unusedVariables false
set_option maxRecDepth 20000
set_option maxHeartbeats 40000000
namespace Go.Proofs.YtjabgfnljbnmmaaDoor
open Go.Ax
attribute [-simp] List.map_set
abbrev wV (N : List Nd) (E : List (Nat × Nat)) : V := .agg [.slice 2 (N.map ndV), .slice 2 (E.map prV)]
theorem is_ok {B : Heap} {N : List Nd} {E : List (Nat × Nat)} {a : Int} {b : Bool} (hb : b = true ↔ 0 ≤ a ∧ a < N.length) : Ok B 14 [wV N E, iV a] [] (.bool b) [] [] := by
 refine k14 ?_
 have hp : True := trivial
 have e : b = (decide (0 ≤ a) && decide (a < N.length)) := by
  cases b with
  | true => simp [hb.1 rfl]
  | false =>
   have : ¬ (0 ≤ a ∧ a < N.length) := fun h => by have := hb.2 h; cases this
   simp only [Bool.false_eq, Bool.and_eq_false_iff, decide_eq_false_iff_not]
   omega
 subst e
 repeat' first | refine w0 ?_ | refine w1 ?_ | ((first | refine w2 ?_ | refine w3 ?_ | refine w4 ?_ | refine w5 ?_); intro K hK; simp (maxSteps := 4000000) +contextual [hp]; (try (refine finD rfl ?_; simp)); refine hK _ ?_; clear hK K) | ((first | refine w6 rfl ?_ ?_ | refine w7 rfl ?_ ?_) <;> (intro h; replace hp := And.intro h hp; clear h; try simp only [z0, z1, z2, z3, z4, z5, z6, z7, z8, z9, z10, z11, z12] at hp)) | refine w8 ?_ | refine w9 ?_ | refine w10 ?_ | refine w11 ?_ | refine w12 ?_ | refine w13 ?_ | refine w14 ?_ | refine w15 ?_ | refine w16 ?_ | refine w17 ?_ | refine w18 ?_ | refine w19 ?_ | refine w20 ?_ | refine w21 (by decide) ?_ | refine w22 ?_
 all_goals simp [EndA]
theorem alike_ok {B : Heap} {xs ys : List Nat} (hl : xs.length ≤ 1000000) (hl2 : ys.length ≤ 1000000) : Ok B 19 [.slice 1 (xs.map nV), .slice 1 (ys.map nV)] [] (.bool (decide (xs = ys))) [] [] := by
 refine k19 ?_
 have hp : True := trivial
 by_cases hlen : xs.length = ys.length
 ·have hlen2 : (xs.length : Int) = (ys.length : Int) := by omega
  repeat' first | refine w0 ?_ | refine w1 ?_ | ((first | refine w2 ?_ | refine w3 ?_ | refine w4 ?_ | refine w5 ?_); intro K hK; simp (maxSteps := 4000000) +contextual [hlen, hlen2, hp]; (try (refine finD rfl ?_; simp)); refine hK _ ?_; clear hK K) | ((first | refine w6 rfl ?_ ?_ | refine w7 rfl ?_ ?_) <;> (intro h; replace hp := And.intro h hp; clear h; try simp only [z0, z1, z2, z3, z4, z5, z6, z7, z8, z9, z10, z11, z12] at hp)) | refine w8 ?_ | refine w9 ?_ | refine w10 ?_ | refine w11 ?_ | refine w12 ?_ | refine w13 ?_ | refine w14 ?_ | refine w15 ?_ | refine w16 ?_ | refine w17 ?_ | refine w18 ?_ | refine w19 ?_ | refine w20 ?_ | refine w21 (by decide) ?_ | refine hleave .ret _ (by simp) ?_ | refine hleave (.exit _) _ (by simp) ?_ | refine w22 ?_
  refine c_loopI (fun (j : Nat) => (⟨[(0, .slice 1 (xs.map nV)), (1, .slice 1 (ys.map nV)), (5, nV j)], []⟩ : St)) (fun j => j ≤ xs.length ∧ xs.take j = ys.take j) (fun j => xs.length - j) 0 (by simp) (by simp) (fun j K' hj hnext hleave => ?_)
  obtain ⟨hj, hd⟩ := hj
  by_cases hjl : j < xs.length
  ·have hjy : j < ys.length := by omega
   have hw : IntKind.wrap .i64 ((j : Int) + 1) = ((j + 1 : Nat) : Int) := wrapN (by omega) (by omega)
   by_cases hx : nth xs j = nth ys j
   ·have hx2 : ((nth xs j : Nat) : Int) = ((nth ys j : Nat) : Int) := by omega
    repeat' first | refine w0 ?_ | refine w1 ?_ | ((first | refine w2 ?_ | refine w3 ?_ | refine w4 ?_ | refine w5 ?_); intro K hK; simp (maxSteps := 4000000) +contextual [hjl, hjy, hx, hx2, hp]; (try (refine finD rfl ?_; simp)); refine hK _ ?_; clear hK K) | ((first | refine w6 rfl ?_ ?_ | refine w7 rfl ?_ ?_) <;> (intro h; replace hp := And.intro h hp; clear h; try simp only [z0, z1, z2, z3, z4, z5, z6, z7, z8, z9, z10, z11, z12] at hp)) | refine w8 ?_ | refine w9 ?_ | refine w10 ?_ | refine w11 ?_ | refine w12 ?_ | refine w13 ?_ | refine w14 ?_ | refine w15 ?_ | refine w16 ?_ | refine w17 ?_ | refine w18 ?_ | refine w19 ?_ | refine w20 ?_ | refine w21 (by decide) ?_ | refine hleave .ret _ (by simp) ?_ | refine hleave (.exit _) _ (by simp) ?_ | refine w22 ?_
    all_goals exact hnext _ (j + 1) (by simp [hw]) ⟨hjl, by rw [take_nth hjl, take_nth hjy, hd, hx]⟩ (by omega)
   ·have hx2 : ¬ ((nth xs j : Nat) : Int) = ((nth ys j : Nat) : Int) := by omega
    have hne : xs ≠ ys := fun e => hx (by rw [e])
    repeat' first | refine w0 ?_ | refine w1 ?_ | ((first | refine w2 ?_ | refine w3 ?_ | refine w4 ?_ | refine w5 ?_); intro K hK; simp (maxSteps := 4000000) +contextual [hjl, hjy, hx, hx2, hp]; (try (refine finD rfl ?_; simp)); refine hK _ ?_; clear hK K) | ((first | refine w6 rfl ?_ ?_ | refine w7 rfl ?_ ?_) <;> (intro h; replace hp := And.intro h hp; clear h; try simp only [z0, z1, z2, z3, z4, z5, z6, z7, z8, z9, z10, z11, z12] at hp)) | refine w8 ?_ | refine w9 ?_ | refine w10 ?_ | refine w11 ?_ | refine w12 ?_ | refine w13 ?_ | refine w14 ?_ | refine w15 ?_ | refine w16 ?_ | refine w17 ?_ | refine w18 ?_ | refine w19 ?_ | refine w20 ?_ | refine w21 (by decide) ?_ | refine hleave .ret _ (by simp) ?_ | refine hleave (.exit _) _ (by simp) ?_ | refine w22 ?_
    all_goals simp [EndA, hne]
  ·have hje : j = xs.length := by omega
   subst hje
   have he : xs = ys := by rw [List.take_length] at hd; rw [hd, hlen, List.take_length]
   have hnl : ¬ xs.length < ys.length := by omega
   subst he
   repeat' first | refine w0 ?_ | refine w1 ?_ | ((first | refine w2 ?_ | refine w3 ?_ | refine w4 ?_ | refine w5 ?_); intro K hK; simp (maxSteps := 4000000) +contextual [hnl, hp]; (try (refine finD rfl ?_; simp)); refine hK _ ?_; clear hK K) | ((first | refine w6 rfl ?_ ?_ | refine w7 rfl ?_ ?_) <;> (intro h; replace hp := And.intro h hp; clear h; try simp only [z0, z1, z2, z3, z4, z5, z6, z7, z8, z9, z10, z11, z12] at hp)) | refine w8 ?_ | refine w9 ?_ | refine w10 ?_ | refine w11 ?_ | refine w12 ?_ | refine w13 ?_ | refine w14 ?_ | refine w15 ?_ | refine w16 ?_ | refine w17 ?_ | refine w18 ?_ | refine w19 ?_ | refine w20 ?_ | refine w21 (by decide) ?_ | refine hleave .ret _ (by simp) ?_ | refine hleave (.exit _) _ (by simp) ?_ | refine w22 ?_
   all_goals simp [EndA]
 ·have hlen2 : ¬ (xs.length : Int) = (ys.length : Int) := by omega
  have hne : xs ≠ ys := fun e => hlen (by rw [e])
  repeat' first | refine w0 ?_ | refine w1 ?_ | ((first | refine w2 ?_ | refine w3 ?_ | refine w4 ?_ | refine w5 ?_); intro K hK; simp (maxSteps := 4000000) +contextual [hlen, hlen2, hne, hp]; (try (refine finD rfl ?_; simp)); refine hK _ ?_; clear hK K) | ((first | refine w6 rfl ?_ ?_ | refine w7 rfl ?_ ?_) <;> (intro h; replace hp := And.intro h hp; clear h; try simp only [z0, z1, z2, z3, z4, z5, z6, z7, z8, z9, z10, z11, z12] at hp)) | refine w8 ?_ | refine w9 ?_ | refine w10 ?_ | refine w11 ?_ | refine w12 ?_ | refine w13 ?_ | refine w14 ?_ | refine w15 ?_ | refine w16 ?_ | refine w17 ?_ | refine w18 ?_ | refine w19 ?_ | refine w20 ?_ | refine w21 (by decide) ?_ | refine hleave .ret _ (by simp) ?_ | refine hleave (.exit _) _ (by simp) ?_ | refine w22 ?_
  all_goals simp [EndA, hne]
def cj (f : Nat → Nat) (c : List Nat) (j : Nat) : List Nat := (c.take j).map f ++ c.drop j
theorem cj_len {f c j} (h : j ≤ c.length) : (cj f c j).length = c.length := by simp [cj]; omega
theorem cj_nth {f : Nat → Nat} {c : List Nat} {j : Nat} (h : j < c.length) : nth (cj f c j) j = nth c j := by
 have e : (cj f c j)[j]? = c[j]? := by
  unfold cj
  rw [List.getElem?_append_right (by simp; omega)]
  simp [show min j c.length = j by omega]
 simp only [nth, List.getD, e]
theorem cj_set {f : Nat → Nat} {c : List Nat} {j : Nat} (h : j < c.length) : (cj f c j).set j (f (nth c j)) = cj f c (j + 1) := by
 unfold cj
 rw [List.set_append_right _ _ (by simp; omega), take_nth h, List.drop_eq_getElem_cons h]
 simp [show min j c.length = j by omega]
theorem cj_skip {f : Nat → Nat} {c : List Nat} {j : Nat} (h : j < c.length) (hf : f (nth c j) = nth c j) : cj f c j = cj f c (j + 1) := by
 rw [← cj_set h, hf, ← cj_nth (f := f) h]
 have hl : j < (cj f c j).length := by rw [cj_len (by omega)]; exact h
 rw [← getElem_nthN hl, List.set_getElem_self]
def joinF (c : List Nat) (a b : Nat) : List Nat := c.map fun z => if z = max (nth c a) (nth c b) then min (nth c a) (nth c b) else z
theorem join_ok {B : Heap} {c : List Nat} {a b : Nat} (ha : a < c.length) (hb : b < c.length) (hl : c.length ≤ 1000000) :
  Ok B 33 [.sl 1 (.par 0) c.length, nV a, nV b] [.cells true (c.map nV)] (.tup []) [.cells true ((joinF c a b).map nV)] [] := by
 refine k33 ?_
 have hp : True := trivial
 obtain ⟨x, hx⟩ : ∃ x, x = min (nth c a) (nth c b) := ⟨_, rfl⟩
 obtain ⟨y, hy⟩ : ∃ y, y = max (nth c a) (nth c b) := ⟨_, rfl⟩
 have hx2 : min ((nth c a : Nat) : Int) ((nth c b : Nat) : Int) = (x : Int) := by omega
 have hy2 : max ((nth c a : Nat) : Int) ((nth c b : Nat) : Int) = (y : Int) := by omega
 have hr : joinF c a b = c.map (fun z => if z = y then x else z) := by unfold joinF; rw [hx, hy]
 rw [hr]
 generalize hf : (fun z => if z = y then x else z) = f
 repeat' first | refine w0 ?_ | refine w1 ?_ | ((first | refine w2 ?_ | refine w3 ?_ | refine w4 ?_ | refine w5 ?_); intro K hK; simp (maxSteps := 4000000) +contextual [ha, hb, hx2, hy2, hp]; (try (refine finD rfl ?_; simp)); refine hK _ ?_; clear hK K) | ((first | refine w6 rfl ?_ ?_ | refine w7 rfl ?_ ?_) <;> (intro h; replace hp := And.intro h hp; clear h; try simp only [z0, z1, z2, z3, z4, z5, z6, z7, z8, z9, z10, z11, z12] at hp)) | refine w8 ?_ | refine w9 ?_ | refine w10 ?_ | refine w11 ?_ | refine w12 ?_ | refine w13 ?_ | refine w14 ?_ | refine w15 ?_ | refine w16 ?_ | refine w17 ?_ | refine w18 ?_ | refine w19 ?_ | refine w20 ?_ | refine w21 (by decide) ?_ | refine hleave .ret _ (by simp) ?_ | refine hleave (.exit _) _ (by simp) ?_ | refine w22 ?_
 refine c_loopI (fun (j : Nat) => (⟨[(0, .sl 1 (.par 0) c.length), (6, nV x), (7, nV y), (8, nV j)], [(.par 0, .cells true ((cj f c j).map nV))]⟩ : St)) (fun j => j ≤ c.length) (fun j => c.length - j) 0 (by simp [cj]) (by simp) (fun j K' hj hnext hleave => ?_)
 have hcl := cj_len (f := f) hj
 by_cases hjl : j < c.length
 ·have hw : IntKind.wrap .i64 ((j : Int) + 1) = ((j + 1 : Nat) : Int) := wrapN (by omega) (by omega)
  have hn := cj_nth (f := f) hjl
  have hjl2 : j < (cj f c j).length := by omega
  have hjl3 : j + 1 ≤ (cj f c j).length := by omega
  have hj1 : j + 1 ≤ c.length := hjl
  by_cases hz : nth c j = y
  ·have hz2 : ((nth c j : Nat) : Int) = (y : Int) := by omega
   have hs := cj_set (f := f) hjl
   have hfx : f (nth c j) = x := by rw [← hf]; simp [hz]
   rw [hfx] at hs
   repeat' first | refine w0 ?_ | refine w1 ?_ | ((first | refine w2 ?_ | refine w3 ?_ | refine w4 ?_ | refine w5 ?_); intro K hK; simp (maxSteps := 4000000) +contextual [hjl, hn, hjl2, hjl3, hcl, hj1, hz, hz2, hs, hp]; (try (refine finD rfl ?_; simp)); refine hK _ ?_; clear hK K) | ((first | refine w6 rfl ?_ ?_ | refine w7 rfl ?_ ?_) <;> (intro h; replace hp := And.intro h hp; clear h; try simp only [z0, z1, z2, z3, z4, z5, z6, z7, z8, z9, z10, z11, z12] at hp)) | refine w8 ?_ | refine w9 ?_ | refine w10 ?_ | refine w11 ?_ | refine w12 ?_ | refine w13 ?_ | refine w14 ?_ | refine w15 ?_ | refine w16 ?_ | refine w17 ?_ | refine w18 ?_ | refine w19 ?_ | refine w20 ?_ | refine w21 (by decide) ?_ | refine hleave .ret _ (by simp) ?_ | refine hleave (.exit _) _ (by simp) ?_ | refine w22 ?_
   all_goals exact hnext _ (j + 1) (by simp [hw]) hjl (by omega)
  ·have hz2 : ¬ ((nth c j : Nat) : Int) = (y : Int) := by omega
   have hs := cj_skip (f := f) hjl (by rw [← hf]; simp [hz])
   repeat' first | refine w0 ?_ | refine w1 ?_ | ((first | refine w2 ?_ | refine w3 ?_ | refine w4 ?_ | refine w5 ?_); intro K hK; simp (maxSteps := 4000000) +contextual [hjl, hn, hjl2, hcl, hz, hz2, hp]; (try (refine finD rfl ?_; simp)); refine hK _ ?_; clear hK K) | ((first | refine w6 rfl ?_ ?_ | refine w7 rfl ?_ ?_) <;> (intro h; replace hp := And.intro h hp; clear h; try simp only [z0, z1, z2, z3, z4, z5, z6, z7, z8, z9, z10, z11, z12] at hp)) | refine w8 ?_ | refine w9 ?_ | refine w10 ?_ | refine w11 ?_ | refine w12 ?_ | refine w13 ?_ | refine w14 ?_ | refine w15 ?_ | refine w16 ?_ | refine w17 ?_ | refine w18 ?_ | refine w19 ?_ | refine w20 ?_ | refine w21 (by decide) ?_ | refine hleave .ret _ (by simp) ?_ | refine hleave (.exit _) _ (by simp) ?_ | refine w22 ?_
   all_goals exact hnext _ (j + 1) (by simp [hw, ← hs]) hjl (by omega)
 ·have hje : j = c.length := by omega
  subst hje
  repeat' first | refine w0 ?_ | refine w1 ?_ | ((first | refine w2 ?_ | refine w3 ?_ | refine w4 ?_ | refine w5 ?_); intro K hK; simp (maxSteps := 4000000) +contextual [hcl, hp]; (try (refine finD rfl ?_; simp)); refine hK _ ?_; clear hK K) | ((first | refine w6 rfl ?_ ?_ | refine w7 rfl ?_ ?_) <;> (intro h; replace hp := And.intro h hp; clear h; try simp only [z0, z1, z2, z3, z4, z5, z6, z7, z8, z9, z10, z11, z12] at hp)) | refine w8 ?_ | refine w9 ?_ | refine w10 ?_ | refine w11 ?_ | refine w12 ?_ | refine w13 ?_ | refine w14 ?_ | refine w15 ?_ | refine w16 ?_ | refine w17 ?_ | refine w18 ?_ | refine w19 ?_ | refine w20 ?_ | refine w21 (by decide) ?_ | refine hleave .ret _ (by simp) ?_ | refine hleave (.exit _) _ (by simp) ?_ | refine w22 ?_
  all_goals simp [EndA, cj]
def likeF (N : List Nd) (c : List Nat) (i k : Nat) : Bool :=
 decide ((nth N i).f = (nth N k).f ∧ (nth N i).a.length = (nth N k).a.length ∧ (nth N i).a ≠ [] ∧ ∀ j, j < (nth N i).a.length → nth c (nth (nth N i).a j) = nth c (nth (nth N k).a j))
theorem like_ok {B : Heap} {N : List Nd} {E : List (Nat × Nat)} {c : List Nat} {i k : Nat} (hi : i < N.length) (hk : k < N.length) (hai : ∀ a ∈ (nth N i).a, a < c.length) (hak : ∀ a ∈ (nth N k).a, a < c.length) (hl : (nth N i).a.length ≤ 1000000) :
  Ok B 34 [wV N E, .sl 1 (.par 0) c.length, nV i, nV k] [.cells true (c.map nV)] (.bool (likeF N c i k)) [.cells true (c.map nV)] [] := by
 refine k34 ?_
 have hp : True := trivial
 generalize hb : likeF N c i k = b
 obtain ⟨xi, hxi⟩ : ∃ x, x = nth N i := ⟨_, rfl⟩
 obtain ⟨xk, hxk⟩ : ∃ x, x = nth N k := ⟨_, rfl⟩
 unfold likeF at hb
 rw [← hxi, ← hxk] at hb
 rw [← hxi] at hai hl
 rw [← hxk] at hak
 by_cases hc : xi.f = xk.f ∧ xi.a.length = xk.a.length ∧ xi.a ≠ []
 ·obtain ⟨h1, h2, h3⟩ := hc
  have h2' : (xi.a.length : Int) = (xk.a.length : Int) := by omega
  have h3' : ¬ xi.a.length = 0 := by simpa using h3
  have h3'' : ¬ (xi.a.length : Int) = 0 := by omega
  have h4' : ¬ xk.a.length = 0 := by omega
  have h4'' : ¬ (xk.a.length : Int) = 0 := by omega
  repeat' first | refine w0 ?_ | refine w1 ?_ | ((first | refine w2 ?_ | refine w3 ?_ | refine w4 ?_ | refine w5 ?_); intro K hK; simp (maxSteps := 4000000) +contextual [hi, hk, ← hxi, ← hxk, h1, h2, h2', h3', h3'', h4', h4'', hp]; (try (refine finD rfl ?_; simp)); refine hK _ ?_; clear hK K) | ((first | refine w6 rfl ?_ ?_ | refine w7 rfl ?_ ?_) <;> (intro h; replace hp := And.intro h hp; clear h; try simp only [z0, z1, z2, z3, z4, z5, z6, z7, z8, z9, z10, z11, z12] at hp)) | refine w8 ?_ | refine w9 ?_ | refine w10 ?_ | refine w11 ?_ | refine w12 ?_ | refine w13 ?_ | refine w14 ?_ | refine w15 ?_ | refine w16 ?_ | refine w17 ?_ | refine w18 ?_ | refine w19 ?_ | refine w20 ?_ | refine w21 (by decide) ?_ | refine hleave .ret _ (by simp) ?_ | refine hleave (.exit _) _ (by simp) ?_ | refine w22 ?_
  refine c_loopI (fun (j : Nat) => (⟨[(1, .sl 1 (.par 0) c.length), (9, .ref (.loc 9) 0), (10, .ref (.loc 10) 0), (11, nV j)], [(.par 0, .cells true (c.map nV)), (.loc 9, .cells false [.str xi.f, .slice 1 (xi.a.map nV)]), (.loc 10, .cells false [.str xk.f, .slice 1 (xk.a.map nV)])]⟩ : St))
   (fun j => j ≤ xi.a.length ∧ ∀ i, i < j → nth c (nth xi.a i) = nth c (nth xk.a i)) (fun j => xi.a.length - j) 0 (by simp [h1]) (by simp) (fun j K' hj hnext hleave => ?_)
  obtain ⟨hj, hd⟩ := hj
  by_cases hjl : j < xi.a.length
  ·have hjy : j < xk.a.length := by omega
   have hw : IntKind.wrap .i64 ((j : Int) + 1) = ((j + 1 : Nat) : Int) := wrapN (by omega) (by omega)
   have g1 := hai _ (nth_mem hjl)
   have g2 := hak _ (nth_mem hjy)
   by_cases hx : nth c (nth xi.a j) = nth c (nth xk.a j)
   ·have hx2 : ((nth c (nth xi.a j) : Nat) : Int) = ((nth c (nth xk.a j) : Nat) : Int) := by omega
    repeat' first | refine w0 ?_ | refine w1 ?_ | ((first | refine w2 ?_ | refine w3 ?_ | refine w4 ?_ | refine w5 ?_); intro K hK; simp (maxSteps := 4000000) +contextual [hjl, hjy, g1, g2, hx2, hp]; (try (refine finD rfl ?_; simp)); refine hK _ ?_; clear hK K) | ((first | refine w6 rfl ?_ ?_ | refine w7 rfl ?_ ?_) <;> (intro h; replace hp := And.intro h hp; clear h; try simp only [z0, z1, z2, z3, z4, z5, z6, z7, z8, z9, z10, z11, z12] at hp)) | refine w8 ?_ | refine w9 ?_ | refine w10 ?_ | refine w11 ?_ | refine w12 ?_ | refine w13 ?_ | refine w14 ?_ | refine w15 ?_ | refine w16 ?_ | refine w17 ?_ | refine w18 ?_ | refine w19 ?_ | refine w20 ?_ | refine w21 (by decide) ?_ | refine hleave .ret _ (by simp) ?_ | refine hleave (.exit _) _ (by simp) ?_ | refine w22 ?_
    all_goals first | exact hnext _ (j + 1) (by simp [hw]) ⟨hjl, fun i hi => by
     rcases Nat.lt_or_ge i j with h | h
     ·exact hd i h
     ·have : i = j := by omega
      rw [this]; exact hx⟩ (by omega) | (exfalso; exact hp.1 hx2)
   ·have hx2 : ¬ ((nth c (nth xi.a j) : Nat) : Int) = ((nth c (nth xk.a j) : Nat) : Int) := by omega
    have hbf : b = false := by
     rw [← hb]
     simp only [decide_eq_false_iff_not]
     exact fun h => hx (h.2.2.2 j hjl)
    subst hbf
    repeat' first | refine w0 ?_ | refine w1 ?_ | ((first | refine w2 ?_ | refine w3 ?_ | refine w4 ?_ | refine w5 ?_); intro K hK; simp (maxSteps := 4000000) +contextual [hjl, hjy, g1, g2, hx2, hp]; (try (refine finD rfl ?_; simp)); refine hK _ ?_; clear hK K) | ((first | refine w6 rfl ?_ ?_ | refine w7 rfl ?_ ?_) <;> (intro h; replace hp := And.intro h hp; clear h; try simp only [z0, z1, z2, z3, z4, z5, z6, z7, z8, z9, z10, z11, z12] at hp)) | refine w8 ?_ | refine w9 ?_ | refine w10 ?_ | refine w11 ?_ | refine w12 ?_ | refine w13 ?_ | refine w14 ?_ | refine w15 ?_ | refine w16 ?_ | refine w17 ?_ | refine w18 ?_ | refine w19 ?_ | refine w20 ?_ | refine w21 (by decide) ?_ | refine hleave .ret _ (by simp) ?_ | refine hleave (.exit _) _ (by simp) ?_ | refine w22 ?_
    all_goals simp [EndA]
  ·have hje : j = xi.a.length := by omega
   subst hje
   have hnl : ¬ xi.a.length < xi.a.length := by omega
   have hbt : b = true := by
    rw [← hb]
    simp only [decide_eq_true_eq]
    exact ⟨h1, h2, h3, hd⟩
   subst hbt
   repeat' first | refine w0 ?_ | refine w1 ?_ | ((first | refine w2 ?_ | refine w3 ?_ | refine w4 ?_ | refine w5 ?_); intro K hK; simp (maxSteps := 4000000) +contextual [hnl, hp]; (try (refine finD rfl ?_; simp)); refine hK _ ?_; clear hK K) | ((first | refine w6 rfl ?_ ?_ | refine w7 rfl ?_ ?_) <;> (intro h; replace hp := And.intro h hp; clear h; try simp only [z0, z1, z2, z3, z4, z5, z6, z7, z8, z9, z10, z11, z12] at hp)) | refine w8 ?_ | refine w9 ?_ | refine w10 ?_ | refine w11 ?_ | refine w12 ?_ | refine w13 ?_ | refine w14 ?_ | refine w15 ?_ | refine w16 ?_ | refine w17 ?_ | refine w18 ?_ | refine w19 ?_ | refine w20 ?_ | refine w21 (by decide) ?_ | refine hleave .ret _ (by simp) ?_ | refine hleave (.exit _) _ (by simp) ?_ | refine w22 ?_
   all_goals simp [EndA]
 ·have hbf : b = false := by
   rw [← hb]
   simp only [decide_eq_false_iff_not]
   exact fun h => hc ⟨h.1, h.2.1, h.2.2.1⟩
  subst hbf
  have h3 : xi.a ≠ [] ↔ ¬ xi.a.length = 0 := by simp
  rw [h3] at hc
  repeat' first | refine w0 ?_ | refine w1 ?_ | ((first | refine w2 ?_ | refine w3 ?_ | refine w4 ?_ | refine w5 ?_); intro K hK; simp (maxSteps := 4000000) +contextual [hi, hk, ← hxi, ← hxk, hp]; (try (refine finD rfl ?_; simp)); refine hK _ ?_; clear hK K) | ((first | refine w6 rfl ?_ ?_ | refine w7 rfl ?_ ?_) <;> (intro h; replace hp := And.intro h hp; clear h; try simp only [z0, z1, z2, z3, z4, z5, z6, z7, z8, z9, z10, z11, z12] at hp)) | refine w8 ?_ | refine w9 ?_ | refine w10 ?_ | refine w11 ?_ | refine w12 ?_ | refine w13 ?_ | refine w14 ?_ | refine w15 ?_ | refine w16 ?_ | refine w17 ?_ | refine w18 ?_ | refine w19 ?_ | refine w20 ?_ | refine w21 (by decide) ?_ | refine hleave .ret _ (by simp) ?_ | refine hleave (.exit _) _ (by simp) ?_ | refine w22 ?_
  ·simp [EndA]
  exfalso
  refine hp.1 ?_
  by_cases g1 : xi.f = xk.f
  ·by_cases g2 : xi.a.length = xk.a.length
   ·right; right
    apply List.length_eq_zero_iff.1
    apply Decidable.byContradiction
    intro g3
    exact hc ⟨g1, g2, g3⟩
   ·right; left; omega
  ·exact .inl g1
end Go.Proofs.YtjabgfnljbnmmaaDoor
