/- A part of the proof of a law of this seat: no condition. -/
import Derived.Test.YtjabgfnljbnmmaaDoorE11
set_option linter.unusedSimpArgs false
set_option linter.unusedVariables false
set_option maxRecDepth 20000
set_option maxHeartbeats 40000000
namespace Go.Proofs.YtjabgfnljbnmmaaDoor
open Go.Ax
attribute [-simp] List.map_set
@[simp] theorem map_set_bV (l : List Bool) (i : Nat) (x : Bool) : (l.map bV).set i (.bool x) = (l.set i x).map bV := by rw [List.map_set]
/-- Along the edges up to a node: equations are needed, pairs of arguments are told. -/
inductive Way (N : List Nd) (D : List Ed) (top : Nat) : Nat → List Bool → List (Nat × Nat) → List Bool → List (Nat × Nat) → Nat → Prop
 | stop {need out} : Way N D top top need out need out 0
 | eqn {a need out need' out' k} (h : a ≠ top) (ha : a < D.length) (hw : 0 ≤ (nth D a).why) (hl : (nth D a).why.toNat < need.length)
   (hr : Way N D top (nth D a).to (need.set (nth D a).why.toNat true) out need' out' k) : Way N D top a need out need' out' (k + 1)
 | cong {a need out need' out' k} (h : a ≠ top) (ha : a < D.length) (hw : (nth D a).why < 0) (haN : a < N.length) (hbN : (nth D a).to < N.length) (hle : (nth N a).a.length ≤ (nth N (nth D a).to).a.length)
   (hc : out.length + (nth N a).a.length ≤ 1000000000) (hr : Way N D top (nth D a).to need (out ++ (nth N a).a.zip (nth N (nth D a).to).a) need' out' k) : Way N D top a need out need' out' (k + 1)
theorem zip_take {xs ys : List Nat} {j : Nat} (h : j < xs.length) (h2 : xs.length ≤ ys.length) : (xs.zip ys).take (j + 1) = (xs.zip ys).take j ++ [(nth xs j, nth ys j)] := by
 have hz : j < (xs.zip ys).length := by simp; omega
 rw [take_nth hz]
 congr 1
 have h3 : j < ys.length := by omega
 have e : (xs.zip ys)[j]? = some (nth xs j, nth ys j) := by
  rw [List.getElem?_zip_eq_some]
  exact ⟨by rw [List.getElem?_eq_getElem h, getElem_nthN h], by rw [List.getElem?_eq_getElem h3, getElem_nthN h3]⟩
 simp only [nth, List.getD, e, Option.getD_some]
theorem way_ok {B : Heap} {G : GS} {bn : Nat} {seen : List (Nat × Nat)} {need need' : List Bool} {a top k : Nat} {out : List (Nat × Nat)} (h : Way G.N G.D top a need [] need' out k) :
  Ok B 45 [.ref (.par 0) 0, nV a, nV top] (wObs G bn seen need) (.own 2 (out.map prV)) (wObs G bn seen need') [] := by
 refine k45 ?_
 have hp : True := trivial
 repeat' first | refine w0 ?_ | refine w1 ?_ | ((first | refine w2 ?_ | refine w3 ?_ | refine w4 ?_ | refine w5 ?_); intro K hK; simp (maxSteps := 4000000) +contextual [hp]; (try (refine finD rfl ?_; simp)); refine hK _ ?_; clear hK K) | ((first | refine w6 rfl ?_ ?_ | refine w7 rfl ?_ ?_) <;> (intro h; replace hp := And.intro h hp; clear h; try simp only [z0, z1, z2, z3, z4, z5, z6, z7, z8, z9, z10, z11, z12] at hp)) | refine w8 ?_ | refine w9 ?_ | refine w10 ?_ | refine w11 ?_ | refine w12 ?_ | refine w13 ?_ | refine w14 ?_ | refine w15 ?_ | refine w16 ?_ | refine w17 ?_ | refine w18 ?_ | refine w19 ?_ | refine w20 ?_ | refine w21 (by decide) ?_ | refine hleave .ret _ (by simp) ?_ | refine hleave (.exit _) _ (by simp) ?_ | refine w22 ?_
 refine c_loopI (fun (q : Nat × List Bool × List (Nat × Nat) × Nat) => (⟨[(0, .ref (.par 0) 0), (1, nV q.1), (2, nV top), (7, .own 2 (q.2.2.1.map prV))], wIn G bn seen q.2.1⟩ : St)) (fun q => Way G.N G.D top q.1 q.2.1 q.2.2.1 need' out q.2.2.2) (fun q => q.2.2.2) (a, need, [], k) (by simp) h (fun q K' hr hnext hleave => ?_)
 obtain ⟨x, nd, o, k1⟩ := q
 simp only at hr hnext ⊢
 cases hr with
 | stop =>
  repeat' first | refine w0 ?_ | refine w1 ?_ | ((first | refine w2 ?_ | refine w3 ?_ | refine w4 ?_ | refine w5 ?_); intro K hK; simp (maxSteps := 4000000) +contextual [hp]; (try (refine finD rfl ?_; simp)); refine hK _ ?_; clear hK K) | ((first | refine w6 rfl ?_ ?_ | refine w7 rfl ?_ ?_) <;> (intro h; replace hp := And.intro h hp; clear h; try simp only [z0, z1, z2, z3, z4, z5, z6, z7, z8, z9, z10, z11, z12] at hp)) | refine w8 ?_ | refine w9 ?_ | refine w10 ?_ | refine w11 ?_ | refine w12 ?_ | refine w13 ?_ | refine w14 ?_ | refine w15 ?_ | refine w16 ?_ | refine w17 ?_ | refine w18 ?_ | refine w19 ?_ | refine w20 ?_ | refine w21 (by decide) ?_ | refine hleave .ret _ (by simp) ?_ | refine hleave (.exit _) _ (by simp) ?_ | refine w22 ?_
  all_goals simp [EndA]
 | @eqn _ _ _ _ _ k2 hne hx hw hl hr =>
  have hne2 : ¬ ((x : Nat) : Int) = ((top : Nat) : Int) := by omega
  have hx3 : x * 3 + 3 ≤ G.D.length * 3 := by omega
  have hl2 : (nth G.D x).why < (nd.length : Int) := by omega
  have hl3 : (nth G.D x).why.toNat + 1 ≤ nd.length := hl
  repeat' first | refine w0 ?_ | refine w1 ?_ | ((first | refine w2 ?_ | refine w3 ?_ | refine w4 ?_ | refine w5 ?_); intro K hK; simp (maxSteps := 4000000) +contextual [hne, hne2, hx, hx3, hw, hl, hl2, hl3, hp]; (try (refine finD rfl ?_; simp)); refine hK _ ?_; clear hK K) | ((first | refine w6 rfl ?_ ?_ | refine w7 rfl ?_ ?_) <;> (intro h; replace hp := And.intro h hp; clear h; try simp only [z0, z1, z2, z3, z4, z5, z6, z7, z8, z9, z10, z11, z12] at hp)) | refine w8 ?_ | refine w9 ?_ | refine w10 ?_ | refine w11 ?_ | refine w12 ?_ | refine w13 ?_ | refine w14 ?_ | refine w15 ?_ | refine w16 ?_ | refine w17 ?_ | refine w18 ?_ | refine w19 ?_ | refine w20 ?_ | refine w21 (by decide) ?_ | refine hleave .ret _ (by simp) ?_ | refine hleave (.exit _) _ (by simp) ?_ | refine w22 ?_
  all_goals exact hnext _ ((nth G.D x).to, nd.set (nth G.D x).why.toNat true, o, _) (by simp) hr (by simp)
 | @cong _ _ _ _ _ k2 hne hx hw haN hbN hle hc hr =>
  have hne2 : ¬ ((x : Nat) : Int) = ((top : Nat) : Int) := by omega
  have hx3 : x * 3 + 3 ≤ G.D.length * 3 := by omega
  have hw2 : ¬ 0 ≤ (nth G.D x).why := by omega
  obtain ⟨xs, hxs⟩ : ∃ xs, xs = (nth G.N x).a := ⟨_, rfl⟩
  obtain ⟨ys, hys⟩ : ∃ ys, ys = (nth G.N (nth G.D x).to).a := ⟨_, rfl⟩
  rw [← hxs, ← hys] at hle hr
  rw [← hxs] at hc
  repeat' first | refine w0 ?_ | refine w1 ?_ | ((first | refine w2 ?_ | refine w3 ?_ | refine w4 ?_ | refine w5 ?_); intro K hK; simp (maxSteps := 4000000) +contextual [hne, hne2, hx, hx3, hw, hw2, haN, hbN, ← hxs, ← hys, hp]; (try (refine finD rfl ?_; simp)); refine hK _ ?_; clear hK K) | ((first | refine w6 rfl ?_ ?_ | refine w7 rfl ?_ ?_) <;> (intro h; replace hp := And.intro h hp; clear h; try simp only [z0, z1, z2, z3, z4, z5, z6, z7, z8, z9, z10, z11, z12] at hp)) | refine w8 ?_ | refine w9 ?_ | refine w10 ?_ | refine w11 ?_ | refine w12 ?_ | refine w13 ?_ | refine w14 ?_ | refine w15 ?_ | refine w16 ?_ | refine w17 ?_ | refine w18 ?_ | refine w19 ?_ | refine w20 ?_ | refine w21 (by decide) ?_ | refine hleave .ret _ (by simp) ?_ | refine hleave (.exit _) _ (by simp) ?_ | refine w22 ?_
  refine c_loopI (fun (j : Nat) => (⟨[(0, .ref (.par 0) 0), (2, nV top), (7, .own 2 ((o ++ (xs.zip ys).take j).map prV)), (8, .ref (.loc 8) 0), (9, .slice 1 (xs.map nV)), (10, .slice 1 (ys.map nV)), (59, nV xs.length), (60, nV j)],
   wIn G bn seen nd ++ [(.loc 8, .cells false (edC (nth G.D x)))]⟩ : St)) (fun j => j ≤ xs.length) (fun j => xs.length - j) 0 (by simp) (Nat.zero_le _) (fun j K2 hj hnext2 hleave2 => ?_)
  by_cases hjl : j < xs.length
  ·have hjy : j < ys.length := by omega
   have hw3 : IntKind.wrap .i64 ((j : Int) + 1) = ((j + 1 : Nat) : Int) := wrapN (by omega) (by omega)
   have hz := zip_take hjl hle
   have hzl : ((xs.zip ys).take j).length ≤ j := by simp; omega
   have hcap : ((o ++ (xs.zip ys).take j).length + 1) * 16 ≤ 140737488355328 := by rw [List.length_append]; omega
   have hzz : (o ++ (xs.zip ys).take (j + 1)).map prV = (o ++ (xs.zip ys).take j).map prV ++ [prV (nth xs j, nth ys j)] := by rw [hz]; simp
   generalize (o ++ (xs.zip ys).take j) = oj at *
   repeat' first | refine w0 ?_ | refine w1 ?_ | ((first | refine w2 ?_ | refine w3 ?_ | refine w4 ?_ | refine w5 ?_); intro K hK; simp (maxSteps := 4000000) +contextual [hjl, hjy, hcap, hp]; (try (refine finD rfl ?_; simp)); refine hK _ ?_; clear hK K) | ((first | refine w6 rfl ?_ ?_ | refine w7 rfl ?_ ?_) <;> (intro h; replace hp := And.intro h hp; clear h; try simp only [z0, z1, z2, z3, z4, z5, z6, z7, z8, z9, z10, z11, z12] at hp)) | refine w8 ?_ | refine w9 ?_ | refine w10 ?_ | refine w11 ?_ | refine w12 ?_ | refine w13 ?_ | refine w14 ?_ | refine w15 ?_ | refine w16 ?_ | refine w17 ?_ | refine w18 ?_ | refine w19 ?_ | refine w20 ?_ | refine w21 (by decide) ?_ | refine hleave .ret _ (by simp) ?_ | refine hleave (.exit _) _ (by simp) ?_ | refine w22 ?_
   all_goals exact hnext2 _ (j + 1) (by rw [hzz]; simp [hw3]) hjl (by omega)
  ·have hje : j = xs.length := by omega
   subst hje
   have hzl : (xs.zip ys).take xs.length = xs.zip ys := List.take_of_length_le (by simp; omega)
   rw [hzl]
   generalize o ++ xs.zip ys = oz at *
   repeat' first | refine w0 ?_ | refine w1 ?_ | ((first | refine w2 ?_ | refine w3 ?_ | refine w4 ?_ | refine w5 ?_); intro K hK; simp (maxSteps := 4000000) +contextual [hp]; (try (refine finD rfl ?_; simp)); refine hK _ ?_; clear hK K) | ((first | refine w6 rfl ?_ ?_ | refine w7 rfl ?_ ?_) <;> (intro h; replace hp := And.intro h hp; clear h; try simp only [z0, z1, z2, z3, z4, z5, z6, z7, z8, z9, z10, z11, z12] at hp)) | refine w8 ?_ | refine w9 ?_ | refine w10 ?_ | refine w11 ?_ | refine w12 ?_ | refine w13 ?_ | refine w14 ?_ | refine w15 ?_ | refine w16 ?_ | refine w17 ?_ | refine w18 ?_ | refine w19 ?_ | refine w20 ?_ | refine w21 (by decide) ?_ | refine hleave .ret _ (by simp) ?_ | refine hleave (.exit _) _ (by simp) ?_ | refine w22 ?_
   refine hleave2 (.exit _) _ (by simp) ?_
   repeat' first | refine w0 ?_ | refine w1 ?_ | ((first | refine w2 ?_ | refine w3 ?_ | refine w4 ?_ | refine w5 ?_); intro K hK; simp (maxSteps := 4000000) +contextual [hp]; (try (refine finD rfl ?_; simp)); refine hK _ ?_; clear hK K) | ((first | refine w6 rfl ?_ ?_ | refine w7 rfl ?_ ?_) <;> (intro h; replace hp := And.intro h hp; clear h; try simp only [z0, z1, z2, z3, z4, z5, z6, z7, z8, z9, z10, z11, z12] at hp)) | refine w8 ?_ | refine w9 ?_ | refine w10 ?_ | refine w11 ?_ | refine w12 ?_ | refine w13 ?_ | refine w14 ?_ | refine w15 ?_ | refine w16 ?_ | refine w17 ?_ | refine w18 ?_ | refine w19 ?_ | refine w20 ?_ | refine w21 (by decide) ?_ | refine hleave .ret _ (by simp) ?_ | refine hleave (.exit _) _ (by simp) ?_ | refine w22 ?_
   all_goals exact hnext _ ((nth G.D x).to, nd, oz, _) (by simp) hr (by simp)
end Go.Proofs.YtjabgfnljbnmmaaDoor
