/- A part of the proof of a law of this seat: no condition. -/
import Derived.Test.YtjabgfnljbnmmaaDoorE12
set_option linter.unusedSimpArgs false
set_option linter.unusedVariables false
set_option maxRecDepth 20000
set_option maxHeartbeats 40000000
namespace Go.Proofs.YtjabgfnljbnmmaaDoor
open Go.Ax
attribute [-simp] List.map_set
abbrev prC (p : Nat × Nat) : List V := [nV p.1, nV p.2]
@[simp high] theorem prC_len (t : List (Nat × Nat)) : (t.flatMap prC).length = t.length * 2 := by
 induction t with
 | nil => rfl
 | cons x t ih => rw [List.flatMap_cons, List.length_append, ih]; simp; omega
@[simp high] theorem prC_take (t : List (Nat × Nat)) (X : List V) : (t.flatMap prC ++ X).take (t.length * 2) = t.flatMap prC := by
 rw [← prC_len]; simp only [List.take_left]
@[simp high] theorem prC_drop (t : List (Nat × Nat)) (X : List V) : (t.flatMap prC ++ X).drop (t.length * 2) = X := by
 rw [← prC_len]; simp only [List.drop_left]
@[simp high] theorem flat_prV (t : List (Nat × Nat)) : (t.map prV).flatMap V.cells = t.flatMap prC := by
 induction t with
 | nil => rfl
 | cons x t ih => rw [List.map_cons, List.flatMap_cons, ih, List.flatMap_cons]; rfl
/-- The objects of an explanation, and of what is to be explained yet. -/
abbrev aObs (G : GS) (bn : Nat) (seen : List (Nat × Nat)) (need : List Bool) (todo : Ob) : List Ob :=
 [.cells false [.ref (.par 2) 0, .mp (.par 3), .sl 1 (.par 4) need.length], todo,
  .cells false [.own 2 (G.N.map ndV), .mp (.par 5), .own 2 (G.E.map prV), .sl 1 (.par 6) G.P.length, .sl 1 (.par 7) G.C.length, .sl 1 (.par 8) G.U.length, .mp (.par 9), .sl 3 (.par 10) G.D.length],
  .map bn (seen.map seV), .cells true (need.map bV), .map G.bw (G.W.map kvV), .cells true (G.P.map nV), .cells true (G.C.map rowV), .cells true (G.U.map rowV), .map G.bs (G.S.map kvV), .cells true (G.D.flatMap edC)]
abbrev aIn (G : GS) (bn : Nat) (seen : List (Nat × Nat)) (need : List Bool) (todo : Ob) : List (Oid × Ob) :=
 [(.par 0, .cells false [.ref (.par 2) 0, .mp (.par 3), .sl 1 (.alt (.par 4)) need.length]), (.alt (.par 1), todo),
  (.par 2, .cells false [.own 2 (G.N.map ndV), .mp (.par 5), .own 2 (G.E.map prV), .sl 1 (.alt (.par 6)) G.P.length, .sl 1 (.alt (.par 7)) G.C.length, .sl 1 (.alt (.par 8)) G.U.length, .mp (.par 9), .sl 3 (.alt (.par 10)) G.D.length]),
  (.par 3, .map bn (seen.map seV)), (.alt (.par 4), .cells true (need.map bV)), (.par 5, .map G.bw (G.W.map kvV)), (.alt (.par 6), .cells true (G.P.map nV)), (.alt (.par 7), .cells true (G.C.map rowV)), (.alt (.par 8), .cells true (G.U.map rowV)), (.par 9, .map G.bs (G.S.map kvV)), (.alt (.par 10), .cells true (G.D.flatMap edC))]
/-- Pairs explained, the last first. -/
inductive All (N : List Nd) (D : List Ed) : List (Nat × Nat) → List Bool → List (Nat × Nat) → List (Nat × Nat) → List Bool → Nat → Prop
 | nil {seen need} : All N D seen need [] seen need 0
 | skip {seen need todo p seen' need' k} (h : p.1 = p.2 ∨ p ∈ seen) (hb : todo.length ≤ 1000000000000) (hr : All N D seen need todo seen' need' k) : All N D seen need (todo ++ [p]) seen' need' (k + 1)
 | step {seen need todo p seen' need' k M m ku km need1 need2 o1 o2 k1 k2} (h1 : p.1 ≠ p.2) (h2 : p ∉ seen) (hu : Up D [p.1] p.1 M ku) (hm : Meet D M p.2 m km)
   (hw1 : Way N D m p.1 need [] need1 o1 k1) (hw2 : Way N D m p.2 need1 [] need2 o2 k2) (hcap : todo.length + o1.length + o2.length ≤ 1000000000000)
   (hr : All N D (seen ++ [p]) need2 (todo ++ o1 ++ o2) seen' need' k) : All N D seen need (todo ++ [p]) seen' need' (k + 1)
theorem eqKey_pr (p q : Nat × Nat) : eqKey 100 (.agg [nV p.1, nV p.2]) (.agg [nV q.1, nV q.2]) = some (decide (p = q)) := by
 show (if IntKind.i64 = IntKind.i64 ∧ IntKind.i64 = IntKind.i64 then some ((p.1 : Int) == (q.1 : Int) && (p.2 : Int) == (q.2 : Int)) else none) = _
 rw [if_pos ⟨rfl, rfl⟩]
 congr 1
 obtain ⟨a, b⟩ := p
 obtain ⟨c, d⟩ := q
 simp only [Prod.mk.injEq]
 by_cases h1 : a = c <;> by_cases h2 : b = d
 ·simp [h1, h2]
 ·have : ¬ (b : Int) = (d : Int) := by omega
  simp [h2, this]
 ·have : ¬ (a : Int) = (c : Int) := by omega
  simp [h1, this]
 ·have : ¬ (a : Int) = (c : Int) := by omega
  simp [h1, this]
@[simp] theorem eqKey_prs (a b : Int) : eqKey 100 (.agg [.int .i64 a, .int .i64 b]) (.agg [.int .i64 a, .int .i64 b]) = some true := by
 show (if IntKind.i64 = IntKind.i64 ∧ IntKind.i64 = IntKind.i64 then some (a == a && b == b) else none) = _
 simp
theorem se_none {p : Nat × Nat} : ∀ {M : List (Nat × Nat)} {i : Nat}, p ∉ M → findS 100 (.agg [nV p.1, nV p.2]) (M.map seV) i = some none
 | [], _, _ => rfl
 | y :: M, i, h => by
  simp only [List.mem_cons, not_or] at h
  have hk : eqKey 100 (.agg [nV p.1, nV p.2]) (.agg [nV y.1, nV y.2]) = some false := by rw [eqKey_pr]; simp [h.1]
  simp only [List.map_cons, findS, hk, se_none (M := M) (i := i + 1) h.2]
theorem se_some {p : Nat × Nat} : ∀ {M : List (Nat × Nat)} {i : Nat}, p ∈ M → ∃ j, findS 100 (.agg [nV p.1, nV p.2]) (M.map seV) i = some (some (j, nV 1))
 | y :: M, i, h => by
  by_cases e : p = y
  ·have hk : eqKey 100 (.agg [nV p.1, nV p.2]) (.agg [nV y.1, nV y.2]) = some true := by rw [eqKey_pr]; simp [e]
   exact ⟨i, by simp only [List.map_cons, findS, hk]⟩
  ·have hk : eqKey 100 (.agg [nV p.1, nV p.2]) (.agg [nV y.1, nV y.2]) = some false := by rw [eqKey_pr]; simp [e]
   obtain ⟨j, hj⟩ := se_some (M := M) (i := i + 1) (by simpa [e] using h)
   exact ⟨j, by simp only [List.map_cons, findS, hk, hj]⟩
theorem se_get (sn : List (Nat × Nat)) (x : V × V) : (sn.map seV ++ [x])[sn.length]? = some x := by
 rw [List.getElem?_append_right (by simp)]
 simp
theorem se_set (sn : List (Nat × Nat)) (k v w : V) : setS (sn.map seV ++ [(k, v)]) sn.length k w = sn.map seV ++ [(k, w)] := by
 unfold setS
 apply List.ext_getElem?
 intro i
 rw [List.getElem?_modify]
 by_cases e : sn.length = i
 ·subst e
  rw [se_get, se_get]
  simp
 ·simp only [e, if_false, Option.map_eq_map, Option.map_id']
  by_cases h : i < sn.length
  ·rw [List.getElem?_append_left (by simpa using h), List.getElem?_append_left (by simpa using h)]
  ·rw [List.getElem?_eq_none (by simp; omega), List.getElem?_eq_none (by simp; omega)]
theorem prC_take2 (t o : List (Nat × Nat)) : (t.flatMap prC ++ o.flatMap prC).take ((t.length + o.length) * 2) = t.flatMap prC ++ o.flatMap prC :=
 List.take_of_length_le (by rw [List.length_append, prC_len, prC_len]; omega)
theorem prC_le2 (t o : List (Nat × Nat)) : (t.length + o.length) * 2 ≤ t.length * 2 + o.length * 2 := by omega
theorem all_ok {B : Heap} {G : GS} {bn : Nat} {seen seen' todo : List (Nat × Nat)} {need need' : List Bool} {k : Nat} (h : All G.N G.D seen need todo seen' need' k) :
  Ok B 32 [.ref (.par 0) 0, .sl 2 (.par 1) todo.length] (aObs G bn seen need (.cells true (todo.flatMap prC))) (.tup []) (aObs G bn seen' need' .dead) [] := by
 refine k32 ?_
 have hp : True := trivial
 repeat' first | refine w0 ?_ | refine w1 ?_ | ((first | refine w2 ?_ | refine w3 ?_ | refine w4 ?_ | refine w5 ?_); intro K hK; simp (maxSteps := 4000000) +contextual [hp]; (try (refine finD rfl ?_; simp)); refine hK _ ?_; clear hK K) | ((first | refine w6 rfl ?_ ?_ | refine w7 rfl ?_ ?_) <;> (intro h; replace hp := And.intro h hp; clear h; try simp only [z0, z1, z2, z3, z4, z5, z6, z7, z8, z9, z10, z11, z12] at hp)) | refine w8 ?_ | refine w9 ?_ | refine w10 ?_ | refine w11 ?_ | refine w12 ?_ | refine w13 ?_ | refine w14 ?_ | refine w15 ?_ | refine w16 ?_ | refine w17 ?_ | refine w18 ?_ | refine w19 ?_ | refine w20 ?_ | refine w21 (by decide) ?_ | refine hleave .ret _ (by simp) ?_ | refine hleave (.exit _) _ (by simp) ?_ | refine w22 ?_
 refine c_loopI (fun (q : List (Nat × Nat) × List Bool × List (Nat × Nat) × List V × Nat) => (⟨[(0, .ref (.par 0) 0), (1, .sl 2 (.alt (.par 1)) q.2.2.1.length)], aIn G bn q.1 q.2.1 (.cells true (q.2.2.1.flatMap prC ++ q.2.2.2.1))⟩ : St))
  (fun q => All G.N G.D q.1 q.2.1 q.2.2.1 seen' need' q.2.2.2.2) (fun q => q.2.2.2.2) (seen, need, todo, [], k) (by simp) h (fun q K' hr hnext hleave => ?_)
 obtain ⟨sn, nd, t, X, k0⟩ := q
 simp only at hr hnext ⊢
 cases hr with
 | nil =>
  repeat' first | refine w0 ?_ | refine w1 ?_ | ((first | refine w2 ?_ | refine w3 ?_ | refine w4 ?_ | refine w5 ?_); intro K hK; simp (maxSteps := 4000000) +contextual [hp]; (try (refine finD rfl ?_; simp)); refine hK _ ?_; clear hK K) | ((first | refine w6 rfl ?_ ?_ | refine w7 rfl ?_ ?_) <;> (intro h; replace hp := And.intro h hp; clear h; try simp only [z0, z1, z2, z3, z4, z5, z6, z7, z8, z9, z10, z11, z12] at hp)) | refine w8 ?_ | refine w9 ?_ | refine w10 ?_ | refine w11 ?_ | refine w12 ?_ | refine w13 ?_ | refine w14 ?_ | refine w15 ?_ | refine w16 ?_ | refine w17 ?_ | refine w18 ?_ | refine w19 ?_ | refine w20 ?_ | refine w21 (by decide) ?_ | refine hleave .ret _ (by simp) ?_ | refine hleave (.exit _) _ (by simp) ?_ | refine w22 ?_
  all_goals simp [EndA]
 | @skip _ _ t p _ _ k1 hs hb hr =>
  have hw1 : IntKind.wrap .i64 ((t.length : Nat) : Int) = ((t.length : Nat) : Int) := wrapN (by omega) (by omega)
  have hlt1 : ((t.length : Nat) : Int) < (t.length : Int) + 1 := by omega
  have hlt2 : ((t.length : Nat) : Int) ≤ (t.length : Int) + 1 := by omega
  obtain ⟨pa, pb⟩ := p
  by_cases hab : pa = pb
  ·have hab2 : ((pa : Nat) : Int) = ((pb : Nat) : Int) := by omega
   repeat' first | refine w0 ?_ | refine w1 ?_ | ((first | refine w2 ?_ | refine w3 ?_ | refine w4 ?_ | refine w5 ?_); intro K hK; simp (maxSteps := 4000000) +contextual [hw1, hlt1, hlt2, hab, hab2, hp]; (try (refine finD rfl ?_; simp)); refine hK _ ?_; clear hK K) | ((first | refine w6 rfl ?_ ?_ | refine w7 rfl ?_ ?_) <;> (intro h; replace hp := And.intro h hp; clear h; try simp only [z0, z1, z2, z3, z4, z5, z6, z7, z8, z9, z10, z11, z12] at hp)) | refine w8 ?_ | refine w9 ?_ | refine w10 ?_ | refine w11 ?_ | refine w12 ?_ | refine w13 ?_ | refine w14 ?_ | refine w15 ?_ | refine w16 ?_ | refine w17 ?_ | refine w18 ?_ | refine w19 ?_ | refine w20 ?_ | refine w21 (by decide) ?_ | refine hleave .ret _ (by simp) ?_ | refine hleave (.exit _) _ (by simp) ?_ | refine w22 ?_
   all_goals exact hnext _ (sn, nd, t, nV pa :: nV pb :: X, k1) (by simp [hab]) hr (by simp)
  ·have hab2 : ¬ ((pa : Nat) : Int) = ((pb : Nat) : Int) := by omega
   obtain ⟨j, hf⟩ := se_some (i := 0) (hs.resolve_left hab)
   repeat' first | refine w0 ?_ | refine w1 ?_ | ((first | refine w2 ?_ | refine w3 ?_ | refine w4 ?_ | refine w5 ?_); intro K hK; simp (maxSteps := 4000000) +contextual [hw1, hlt1, hlt2, hab, hab2, hf, hp]; (try (refine finD rfl ?_; simp)); refine hK _ ?_; clear hK K) | ((first | refine w6 rfl ?_ ?_ | refine w7 rfl ?_ ?_) <;> (intro h; replace hp := And.intro h hp; clear h; try simp only [z0, z1, z2, z3, z4, z5, z6, z7, z8, z9, z10, z11, z12] at hp)) | refine w8 ?_ | refine w9 ?_ | refine w10 ?_ | refine w11 ?_ | refine w12 ?_ | refine w13 ?_ | refine w14 ?_ | refine w15 ?_ | refine w16 ?_ | refine w17 ?_ | refine w18 ?_ | refine w19 ?_ | refine w20 ?_ | refine w21 (by decide) ?_ | refine hleave .ret _ (by simp) ?_ | refine hleave (.exit _) _ (by simp) ?_ | refine w22 ?_
   all_goals exact hnext _ (sn, nd, t, nV pa :: nV pb :: X, k1) (by simp [hab]) hr (by simp)
 | @step _ _ t p _ _ k1 M m ku km need1 need2 o1 o2 _ _ h1 h2 hu hm hy1 hy2 hcap hr =>
  have hw1 : IntKind.wrap .i64 ((t.length : Nat) : Int) = ((t.length : Nat) : Int) := wrapN (by omega) (by omega)
  have hlt1 : ((t.length : Nat) : Int) < (t.length : Int) + 1 := by omega
  have hlt2 : ((t.length : Nat) : Int) ≤ (t.length : Int) + 1 := by omega
  obtain ⟨pa, pb⟩ := p
  have hab2 : ¬ ((pa : Nat) : Int) = ((pb : Nat) : Int) := by have := h1; simp only at this; omega
  have hf := se_none (i := 0) h2
  repeat' first | refine w0 ?_ | refine w1 ?_ | ((first | refine w2 ?_ | refine w3 ?_ | refine w4 ?_ | refine w5 ?_); intro K hK; simp (maxSteps := 4000000) +contextual [hw1, hlt1, hlt2, h1, hab2, hf, hp]; (try (refine finD rfl ?_; simp)); refine hK _ ?_; clear hK K) | ((first | refine w6 rfl ?_ ?_ | refine w7 rfl ?_ ?_) <;> (intro h; replace hp := And.intro h hp; clear h; try simp only [z0, z1, z2, z3, z4, z5, z6, z7, z8, z9, z10, z11, z12] at hp)) | refine w8 ?_ | refine w9 ?_ | refine w10 ?_ | refine w11 ?_ | refine w12 ?_ | refine w13 ?_ | refine w14 ?_ | refine w15 ?_ | refine w16 ?_ | refine w17 ?_ | refine w18 ?_ | refine w19 ?_ | refine w20 ?_ | refine w21 (by decide) ?_ | refine hleave .ret _ (by simp) ?_ | refine hleave (.exit _) _ (by simp) ?_ | refine w22 ?_
  have hto : ((bn : Int) + (sn.length : Int)).toNat - bn = sn.length := by omega
  have hle : (bn : Int) ≤ (bn : Int) + (sn.length : Int) := by omega
  have hw9 : IntKind.wrap .i64 1 = 1 := by decide
  repeat' first | refine w0 ?_ | refine w1 ?_ | ((first | refine w2 ?_ | refine w3 ?_ | refine w4 ?_ | refine w5 ?_); intro K hK; simp (maxSteps := 4000000) +contextual [hf, hto, hle, hw9, se_get, se_set, hp]; (try (refine finD rfl ?_; simp)); refine hK _ ?_; clear hK K) | ((first | refine w6 rfl ?_ ?_ | refine w7 rfl ?_ ?_) <;> (intro h; replace hp := And.intro h hp; clear h; try simp only [z0, z1, z2, z3, z4, z5, z6, z7, z8, z9, z10, z11, z12] at hp)) | refine w8 ?_ | refine w9 ?_ | refine w10 ?_ | refine w11 ?_ | refine w12 ?_ | refine w13 ?_ | refine w14 ?_ | refine w15 ?_ | refine w16 ?_ | refine w17 ?_ | refine w18 ?_ | refine w19 ?_ | refine w20 ?_ | refine w21 (by decide) ?_ | refine hleave .ret _ (by simp) ?_ | refine hleave (.exit _) _ (by simp) ?_ | refine w22 ?_
  have hmt := meet_ok (B := B) (G := G) (bn := bn) (seen := sn ++ [(pa, pb)]) (need := nd) hu hm
  have hya := way_ok (B := B) (G := G) (bn := bn) (seen := sn ++ [(pa, pb)]) hy1
  have hyb := way_ok (B := B) (G := G) (bn := bn) (seen := sn ++ [(pa, pb)]) hy2
  simp only [wObs, List.map_append, List.map_cons, List.map_nil] at hmt hya hyb
  have hc1 : (t.length + o1.length) * 16 ≤ 140737488355328 := by omega
  have hc2 : (t.length + o1.length + o2.length) * 16 ≤ 140737488355328 := by omega
  refine c_reg fun K hK => ?_
  simp (maxSteps := 4000000) +contextual [hp]
  refine callK (hmt) (by simp) ?_
  simp (maxSteps := 4000000) +contextual [hp]
  refine hK _ ?_
  clear hK K
  repeat' first | refine w0 ?_ | refine w1 ?_ | ((first | refine w2 ?_ | refine w3 ?_ | refine w4 ?_ | refine w5 ?_); intro K hK; simp (maxSteps := 4000000) +contextual [hp]; (try (refine finD rfl ?_; simp)); refine hK _ ?_; clear hK K) | ((first | refine w6 rfl ?_ ?_ | refine w7 rfl ?_ ?_) <;> (intro h; replace hp := And.intro h hp; clear h; try simp only [z0, z1, z2, z3, z4, z5, z6, z7, z8, z9, z10, z11, z12] at hp)) | refine w8 ?_ | refine w9 ?_ | refine w10 ?_ | refine w11 ?_ | refine w12 ?_ | refine w13 ?_ | refine w14 ?_ | refine w15 ?_ | refine w16 ?_ | refine w17 ?_ | refine w18 ?_ | refine w19 ?_ | refine w20 ?_ | refine w21 (by decide) ?_ | refine hleave .ret _ (by simp) ?_ | refine hleave (.exit _) _ (by simp) ?_ | refine w22 ?_
  refine c_reg fun K hK => ?_
  simp (maxSteps := 4000000) +contextual [hc1, hp]
  refine callK (hya) (by simp) ?_
  simp (maxSteps := 4000000) +contextual [hc1, hp]
  refine hK _ ?_
  clear hK K
  repeat' first | refine w0 ?_ | refine w1 ?_ | ((first | refine w2 ?_ | refine w3 ?_ | refine w4 ?_ | refine w5 ?_); intro K hK; simp (maxSteps := 4000000) +contextual [hp]; (try (refine finD rfl ?_; simp)); refine hK _ ?_; clear hK K) | ((first | refine w6 rfl ?_ ?_ | refine w7 rfl ?_ ?_) <;> (intro h; replace hp := And.intro h hp; clear h; try simp only [z0, z1, z2, z3, z4, z5, z6, z7, z8, z9, z10, z11, z12] at hp)) | refine w8 ?_ | refine w9 ?_ | refine w10 ?_ | refine w11 ?_ | refine w12 ?_ | refine w13 ?_ | refine w14 ?_ | refine w15 ?_ | refine w16 ?_ | refine w17 ?_ | refine w18 ?_ | refine w19 ?_ | refine w20 ?_ | refine w21 (by decide) ?_ | refine hleave .ret _ (by simp) ?_ | refine hleave (.exit _) _ (by simp) ?_ | refine w22 ?_
  refine c_reg fun K hK => ?_
  simp (maxSteps := 4000000) +contextual [hc2, prC_take2, prC_le2, hp]
  refine callK (hyb) (by simp) ?_
  simp (maxSteps := 4000000) +contextual [hc2, prC_take2, prC_le2, hp]
  refine hK _ ?_
  clear hK K
  repeat' first | refine w0 ?_ | refine w1 ?_ | ((first | refine w2 ?_ | refine w3 ?_ | refine w4 ?_ | refine w5 ?_); intro K hK; simp (maxSteps := 4000000) +contextual [hp]; (try (refine finD rfl ?_; simp)); refine hK _ ?_; clear hK K) | ((first | refine w6 rfl ?_ ?_ | refine w7 rfl ?_ ?_) <;> (intro h; replace hp := And.intro h hp; clear h; try simp only [z0, z1, z2, z3, z4, z5, z6, z7, z8, z9, z10, z11, z12] at hp)) | refine w8 ?_ | refine w9 ?_ | refine w10 ?_ | refine w11 ?_ | refine w12 ?_ | refine w13 ?_ | refine w14 ?_ | refine w15 ?_ | refine w16 ?_ | refine w17 ?_ | refine w18 ?_ | refine w19 ?_ | refine w20 ?_ | refine w21 (by decide) ?_ | refine hleave .ret _ (by simp) ?_ | refine hleave (.exit _) _ (by simp) ?_ | refine w22 ?_
  all_goals exact hnext _ (sn ++ [(pa, pb)], need2, t ++ o1 ++ o2, [], k1) (by simp [Nat.add_assoc]) hr (by simp)
end Go.Proofs.YtjabgfnljbnmmaaDoor
