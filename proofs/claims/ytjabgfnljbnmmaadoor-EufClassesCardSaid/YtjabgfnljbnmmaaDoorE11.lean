/- A part of the proof of a law of this seat: no condition. -/
import Derived.Test.YtjabgfnljbnmmaaDoorEL
set_option linter.unusedSimpArgs false
set_option linter.unusedVariables false
set_option maxRecDepth 20000
set_option maxHeartbeats 40000000
namespace Go.Proofs.YtjabgfnljbnmmaaDoor
open Go.Ax
attribute [-simp] List.map_set
abbrev bV (b : Bool) : V := .bool b
abbrev seV (p : (Nat × Nat)) : V × V := (.agg [nV p.1, nV p.2], nV 1)
/-- An explanation under way: its objects. -/
abbrev wObs (G : GS) (bn : Nat) (seen : List (Nat × Nat)) (need : List Bool) : List Ob :=
 [.cells false [.ref (.par 1) 0, .mp (.par 2), .sl 1 (.par 3) need.length],
  .cells false [.own 2 (G.N.map ndV), .mp (.par 4), .own 2 (G.E.map prV), .sl 1 (.par 5) G.P.length, .sl 1 (.par 6) G.C.length, .sl 1 (.par 7) G.U.length, .mp (.par 8), .sl 3 (.par 9) G.D.length],
  .map bn (seen.map seV), .cells true (need.map bV), .map G.bw (G.W.map kvV), .cells true (G.P.map nV), .cells true (G.C.map rowV), .cells true (G.U.map rowV), .map G.bs (G.S.map kvV), .cells true (G.D.flatMap edC)]
abbrev wIn (G : GS) (bn : Nat) (seen : List (Nat × Nat)) (need : List Bool) : List (Oid × Ob) :=
 [(.par 0, .cells false [.ref (.par 1) 0, .mp (.par 2), .sl 1 (.alt (.par 3)) need.length]),
  (.par 1, .cells false [.own 2 (G.N.map ndV), .mp (.par 4), .own 2 (G.E.map prV), .sl 1 (.alt (.par 5)) G.P.length, .sl 1 (.alt (.par 6)) G.C.length, .sl 1 (.alt (.par 7)) G.U.length, .mp (.par 8), .sl 3 (.alt (.par 9)) G.D.length]),
  (.par 2, .map bn (seen.map seV)), (.alt (.par 3), .cells true (need.map bV)), (.par 4, .map G.bw (G.W.map kvV)), (.alt (.par 5), .cells true (G.P.map nV)), (.alt (.par 6), .cells true (G.C.map rowV)), (.alt (.par 7), .cells true (G.U.map rowV)), (.par 8, .map G.bs (G.S.map kvV)), (.alt (.par 9), .cells true (G.D.flatMap edC))]
/-- Up the edges, every node on the way kept. -/
inductive Up (D : List Ed) : List Nat → Nat → List Nat → Nat → Prop
 | stop {M x} (h : x < D.length) (hs : (nth D x).some = false) : Up D M x M 0
 | step {M x M' k} (h : x < D.length) (hs : (nth D x).some = true) (hn : (nth D x).to ∉ M) (hr : Up D (M ++ [(nth D x).to]) (nth D x).to M' k) : Up D M x M' (k + 1)
inductive Meet (D : List Ed) (M : List Nat) : Nat → Nat → Nat → Prop
 | here {b} (h : b ∈ M) : Meet D M b b 0
 | step {b m k} (h : b < D.length) (hn : b ∉ M) (hr : Meet D M (nth D b).to m k) : Meet D M b m (k + 1)
abbrev onV (x : Nat) : V × V := (nV x, nV 1)
theorem eqKey_int (a b : Nat) : eqKey 2 (nV a) (nV b) = some (decide (a = b)) := by
 show (if IntKind.i64 = IntKind.i64 then some ((a : Int) == (b : Int)) else none) = _
 rw [if_pos rfl]
 congr 1
 by_cases h : a = b
 ·simp [h]
 ·have : ¬ (a : Int) = (b : Int) := by omega
  simp [h, this]
@[simp] theorem eqKey_self (a : Int) : eqKey 2 (.int .i64 a) (.int .i64 a) = some true := by
 show (if IntKind.i64 = IntKind.i64 then some (a == a) else none) = _
 simp
@[simp] theorem findS_nil (k : Nat) (x : V) (i : Nat) : findS k x [] i = some none := rfl
theorem on_none {x : Nat} : ∀ {M : List Nat} {i : Nat}, x ∉ M → findS 2 (nV x) (M.map onV) i = some none
 | [], _, _ => rfl
 | y :: M, i, h => by
  simp at h
  have hk : eqKey 2 (nV x) (nV y) = some false := by rw [eqKey_int]; simp [h.1]
  simp only [List.map_cons, findS, hk, on_none (M := M) (i := i + 1) h.2]
theorem on_some {x : Nat} : ∀ {M : List Nat} {i : Nat}, x ∈ M → ∃ j, findS 2 (nV x) (M.map onV) i = some (some (j, nV 1))
 | y :: M, i, h => by
  by_cases e : x = y
  ·have hk : eqKey 2 (nV x) (nV y) = some true := by rw [eqKey_int]; simp [e]
   exact ⟨i, by simp only [List.map_cons, findS, hk]⟩
  ·have hk : eqKey 2 (nV x) (nV y) = some false := by rw [eqKey_int]; simp [e]
   obtain ⟨j, hj⟩ := on_some (M := M) (i := i + 1) (by simpa [e] using h)
   exact ⟨j, by simp only [List.map_cons, findS, hk, hj]⟩
theorem meet_ok {B : Heap} {G : GS} {bn : Nat} {seen : List (Nat × Nat)} {need : List Bool} {a b m k l : Nat} {M : List Nat} (hu : Up G.D [a] a M k) (hm : Meet G.D M b m l) :
  Ok B 44 [.ref (.par 0) 0, nV a, nV b] (wObs G bn seen need) (nV m) (wObs G bn seen need) [] := by
 refine k44 ?_
 have hp : True := trivial
 repeat' first | refine w0 ?_ | refine w1 ?_ | ((first | refine w2 ?_ | refine w3 ?_ | refine w4 ?_ | refine w5 ?_); intro K hK; simp (maxSteps := 4000000) +contextual [hp]; (try (refine finD rfl ?_; simp)); refine hK _ ?_; clear hK K) | ((first | refine w6 rfl ?_ ?_ | refine w7 rfl ?_ ?_) <;> (intro h; replace hp := And.intro h hp; clear h; try simp only [z0, z1, z2, z3, z4, z5, z6, z7, z8, z9, z10, z11, z12] at hp)) | refine w8 ?_ | refine w9 ?_ | refine w10 ?_ | refine w11 ?_ | refine w12 ?_ | refine w13 ?_ | refine w14 ?_ | refine w15 ?_ | refine w16 ?_ | refine w17 ?_ | refine w18 ?_ | refine w19 ?_ | refine w20 ?_ | refine w21 (by decide) ?_ | refine hleave .ret _ (by simp) ?_ | refine hleave (.exit _) _ (by simp) ?_ | refine w22 ?_
 refine c_loopI (fun (q : Nat × List Nat × Nat) => (⟨[(0, .ref (.par 0) 0), (2, nV b), (7, .mp (.loc 9)), (8, nV q.1)], wIn G bn seen need ++ [(.loc 9, .map 0 (q.2.1.map onV))]⟩ : St)) (fun q => Up G.D q.2.1 q.1 M q.2.2) (fun q => q.2.2) (a, [a], k) (by simp) hu (fun q K' hr hnext hleave => ?_)
 obtain ⟨x, M1, k1⟩ := q
 simp only at hr hnext ⊢
 cases hr with
 | step hx hs hn hr =>
  have hf := on_none (i := 0) hn
  repeat' first | refine w0 ?_ | refine w1 ?_ | ((first | refine w2 ?_ | refine w3 ?_ | refine w4 ?_ | refine w5 ?_); intro K hK; simp (maxSteps := 4000000) +contextual [hx, hs, hf, hp]; (try (refine finD rfl ?_; simp)); refine hK _ ?_; clear hK K) | ((first | refine w6 rfl ?_ ?_ | refine w7 rfl ?_ ?_) <;> (intro h; replace hp := And.intro h hp; clear h; try simp only [z0, z1, z2, z3, z4, z5, z6, z7, z8, z9, z10, z11, z12] at hp)) | refine w8 ?_ | refine w9 ?_ | refine w10 ?_ | refine w11 ?_ | refine w12 ?_ | refine w13 ?_ | refine w14 ?_ | refine w15 ?_ | refine w16 ?_ | refine w17 ?_ | refine w18 ?_ | refine w19 ?_ | refine w20 ?_ | refine w21 (by decide) ?_ | refine hleave .ret _ (by simp) ?_ | refine hleave (.exit _) _ (by simp) ?_ | refine w22 ?_
  exact hnext _ ((nth G.D x).to, M1 ++ [(nth G.D x).to], _) (by simp) hr (by simp)
 | stop hx hs =>
  repeat' first | refine w0 ?_ | refine w1 ?_ | ((first | refine w2 ?_ | refine w3 ?_ | refine w4 ?_ | refine w5 ?_); intro K hK; simp (maxSteps := 4000000) +contextual [hx, hs, hp]; (try (refine finD rfl ?_; simp)); refine hK _ ?_; clear hK K) | ((first | refine w6 rfl ?_ ?_ | refine w7 rfl ?_ ?_) <;> (intro h; replace hp := And.intro h hp; clear h; try simp only [z0, z1, z2, z3, z4, z5, z6, z7, z8, z9, z10, z11, z12] at hp)) | refine w8 ?_ | refine w9 ?_ | refine w10 ?_ | refine w11 ?_ | refine w12 ?_ | refine w13 ?_ | refine w14 ?_ | refine w15 ?_ | refine w16 ?_ | refine w17 ?_ | refine w18 ?_ | refine w19 ?_ | refine w20 ?_ | refine w21 (by decide) ?_ | refine hleave .ret _ (by simp) ?_ | refine hleave (.exit _) _ (by simp) ?_ | refine w22 ?_
  refine c_loopI (fun (q : Nat × Nat) => (⟨[(0, .ref (.par 0) 0), (2, nV q.1), (7, .mp (.loc 9))], wIn G bn seen need ++ [(.loc 9, .map 0 (M.map onV))]⟩ : St)) (fun q => Meet G.D M q.1 m q.2) (fun q => q.2) (b, l) (by simp) hm (fun q K2 hr hnext2 hleave => ?_)
  obtain ⟨y, l1⟩ := q
  simp only at hr hnext2 ⊢
  cases hr with
  | here hy =>
   obtain ⟨j, hf⟩ := on_some (i := 0) hy
   repeat' first | refine w0 ?_ | refine w1 ?_ | ((first | refine w2 ?_ | refine w3 ?_ | refine w4 ?_ | refine w5 ?_); intro K hK; simp (maxSteps := 4000000) +contextual [hf, hp]; (try (refine finD rfl ?_; simp)); refine hK _ ?_; clear hK K) | ((first | refine w6 rfl ?_ ?_ | refine w7 rfl ?_ ?_) <;> (intro h; replace hp := And.intro h hp; clear h; try simp only [z0, z1, z2, z3, z4, z5, z6, z7, z8, z9, z10, z11, z12] at hp)) | refine w8 ?_ | refine w9 ?_ | refine w10 ?_ | refine w11 ?_ | refine w12 ?_ | refine w13 ?_ | refine w14 ?_ | refine w15 ?_ | refine w16 ?_ | refine w17 ?_ | refine w18 ?_ | refine w19 ?_ | refine w20 ?_ | refine w21 (by decide) ?_ | refine hleave .ret _ (by simp) ?_ | refine hleave (.exit _) _ (by simp) ?_ | refine w22 ?_
   all_goals simp [EndA]
  | step hy hn hr =>
   have hf := on_none (i := 0) hn
   repeat' first | refine w0 ?_ | refine w1 ?_ | ((first | refine w2 ?_ | refine w3 ?_ | refine w4 ?_ | refine w5 ?_); intro K hK; simp (maxSteps := 4000000) +contextual [hf, hy, hp]; (try (refine finD rfl ?_; simp)); refine hK _ ?_; clear hK K) | ((first | refine w6 rfl ?_ ?_ | refine w7 rfl ?_ ?_) <;> (intro h; replace hp := And.intro h hp; clear h; try simp only [z0, z1, z2, z3, z4, z5, z6, z7, z8, z9, z10, z11, z12] at hp)) | refine w8 ?_ | refine w9 ?_ | refine w10 ?_ | refine w11 ?_ | refine w12 ?_ | refine w13 ?_ | refine w14 ?_ | refine w15 ?_ | refine w16 ?_ | refine w17 ?_ | refine w18 ?_ | refine w19 ?_ | refine w20 ?_ | refine w21 (by decide) ?_ | refine hleave .ret _ (by simp) ?_ | refine hleave (.exit _) _ (by simp) ?_ | refine w22 ?_
   exact hnext2 _ ((nth G.D y).to, _) (by simp) hr (by simp)
end Go.Proofs.YtjabgfnljbnmmaaDoor
