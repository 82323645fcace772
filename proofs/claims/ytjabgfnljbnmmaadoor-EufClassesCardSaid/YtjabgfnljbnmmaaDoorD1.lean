/- A part of the proof of a law of this seat: no condition. -/
import Derived.Test.YtjabgfnljbnmmaaDoorE2
import Derived.Test.YtjabgfnljbnmmaaDoorEufD
set_option linter.unusedSimpArgs false
set_option linter.unusedVariables false
set_option maxRecDepth 20000
set_option maxHeartbeats 40000000
namespace Go.Proofs.YtjabgfnljbnmmaaDoor
open Go.Ax
attribute [-simp] List.map_set
/-- The graph's objects inside a function that moves no row. -/
abbrev gInP (G : GS) : List (Oid × Ob) :=
 [(.par 0, .cells false [.own 2 (G.N.map ndV), .mp (.par 1), .own 2 (G.E.map prV), .sl 1 (.par 2) G.P.length, .sl 1 (.par 3) G.C.length, .sl 1 (.par 4) G.U.length, .mp (.par 5), .sl 3 (.par 6) G.D.length]),
  (.par 1, .map G.bw (G.W.map kvV)), (.par 2, .cells true (G.P.map nV)), (.par 3, .cells true (G.C.map rowV)), (.par 4, .cells true (G.U.map rowV)), (.par 5, .map G.bs (G.S.map kvV)), (.par 6, .cells true (G.D.flatMap edC))]
theorem root_p {B : Heap} {G : GS} {a r k : Nat} (h : Rt G.P a r k) : COk Tryd.prog B 1000031 [gR, nV a] (gObs G) (nV r) [] [] := by
 rw [COk.ge (by decide)]
 refine ⟨rfl, rfl, ?_⟩
 refine k31p ?_
 have hp : True := trivial
 repeat' first | refine w0 ?_ | refine w1 ?_ | ((first | refine w2 ?_ | refine w3 ?_ | refine w4 ?_ | refine w5 ?_); intro K hK; simp (maxSteps := 4000000) +contextual [hp]; (try (refine finD rfl ?_; simp)); refine hK _ ?_; clear hK K) | ((first | refine w6 rfl ?_ ?_ | refine w7 rfl ?_ ?_) <;> (intro h; replace hp := And.intro h hp; clear h; try simp only [z0, z1, z2, z3, z4, z5, z6, z7, z8, z9, z10, z11, z12] at hp)) | refine w8 ?_ | refine w9 ?_ | refine w10 ?_ | refine w11 ?_ | refine w12 ?_ | refine w13 ?_ | refine w14 ?_ | refine w15 ?_ | refine w16 ?_ | refine w17 ?_ | refine w18 ?_ | refine w19 ?_ | refine w20 ?_ | refine w21 (by decide) ?_ | refine hleave .ret _ (by simp) ?_ | refine hleave (.exit _) _ (by simp) ?_ | refine w22 ?_
 refine c_loopI (fun (p : Nat × Nat) => (⟨[(0, gR), (1, nV p.1)], gInP G⟩ : St)) (fun p => Rt G.P p.1 r p.2) (fun p => p.2) (a, k) (by simp) h (fun p K' hn hnext hleave => ?_)
 obtain ⟨x, j⟩ := p
 simp only at hn hnext ⊢
 have hx := hn.lt
 cases hn with
 | stop _ e =>
  repeat' first | refine w0 ?_ | refine w1 ?_ | ((first | refine w2 ?_ | refine w3 ?_ | refine w4 ?_ | refine w5 ?_); intro K hK; simp (maxSteps := 4000000) +contextual [hx, e, hp]; (try (refine finD rfl ?_; simp)); refine hK _ ?_; clear hK K) | ((first | refine w6 rfl ?_ ?_ | refine w7 rfl ?_ ?_) <;> (intro h; replace hp := And.intro h hp; clear h; try simp only [z0, z1, z2, z3, z4, z5, z6, z7, z8, z9, z10, z11, z12] at hp)) | refine w8 ?_ | refine w9 ?_ | refine w10 ?_ | refine w11 ?_ | refine w12 ?_ | refine w13 ?_ | refine w14 ?_ | refine w15 ?_ | refine w16 ?_ | refine w17 ?_ | refine w18 ?_ | refine w19 ?_ | refine w20 ?_ | refine w21 (by decide) ?_ | refine hleave .ret _ (by simp) ?_ | refine hleave (.exit _) _ (by simp) ?_ | refine w22 ?_
  simp [EndA]
 | step _ e hs =>
  repeat' first | refine w0 ?_ | refine w1 ?_ | ((first | refine w2 ?_ | refine w3 ?_ | refine w4 ?_ | refine w5 ?_); intro K hK; simp (maxSteps := 4000000) +contextual [hx, e, hp]; (try (refine finD rfl ?_; simp)); refine hK _ ?_; clear hK K) | ((first | refine w6 rfl ?_ ?_ | refine w7 rfl ?_ ?_) <;> (intro h; replace hp := And.intro h hp; clear h; try simp only [z0, z1, z2, z3, z4, z5, z6, z7, z8, z9, z10, z11, z12] at hp)) | refine w8 ?_ | refine w9 ?_ | refine w10 ?_ | refine w11 ?_ | refine w12 ?_ | refine w13 ?_ | refine w14 ?_ | refine w15 ?_ | refine w16 ?_ | refine w17 ?_ | refine w18 ?_ | refine w19 ?_ | refine w20 ?_ | refine w21 (by decide) ?_ | refine hleave .ret _ (by simp) ?_ | refine hleave (.exit _) _ (by simp) ?_ | refine w22 ?_
  ·refine hnext _ (nth G.P x, _) (by simp) hs (by simp)
  ·exfalso; exact e (by have := hp.1; omega)
end Go.Proofs.YtjabgfnljbnmmaaDoor
