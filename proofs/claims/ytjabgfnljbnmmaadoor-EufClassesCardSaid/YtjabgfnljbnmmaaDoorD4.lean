/- A part of the proof of a law of this seat: no condition. -/
import Derived.Test.YtjabgfnljbnmmaaDoorD2
import Derived.Test.YtjabgfnljbnmmaaDoorD3
import Derived.Test.YtjabgfnljbnmmaaDoorE2
set_option linter.unusedSimpArgs false
set_option linter.unusedVariables false
set_option maxRecDepth 20000
set_option maxHeartbeats 40000000
namespace Go.Proofs.YtjabgfnljbnmmaaDoor
open Go.Ax
attribute [-simp] List.map_set
/-- A script played: both answer alike. -/
inductive PRun (B : Heap) (sc : List OpS) : Nat → GS → List Nd → List (Nat × Nat) → GS → List Nd → List (Nat × Nat) → Prop
 | done {j G N E} (h : sc.length ≤ j ∨ 60 ≤ j) : PRun B sc j G N E G N E
 | skip {j G N E G' N' E'} (h : j < sc.length) (h2 : j < 60) (ha : 20 < (nth sc j).args.length) (hr : PRun B sc (j + 1) G N E G' N' E') : PRun B sc j G N E G' N' E'
 | step {j G N E G1 N1 E1 G' N' E'} (h : j < sc.length) (h2 : j < 60) (ha : ¬ 20 < (nth sc j).args.length) (hs : Ok B 29 [gR, wV2 N E, opV (nth sc j)] (gObs G) (.tup [wV2 N1 E1, .bool true]) (gObs G1) [])
   (hr : PRun B sc (j + 1) G1 N1 E1 G' N' E') : PRun B sc j G N E G' N' E'
/-- The graph's objects where a call brought them. -/
abbrev gSub (d : Nat) (G : GS) : List (Oid × Ob) :=
 [(.sub d 0, .cells false [.own 2 (G.N.map ndV), .mp (.sub d 1), .own 2 (G.E.map prV), .sl 1 (.sub d 2) G.P.length, .sl 1 (.sub d 3) G.C.length, .sl 1 (.sub d 4) G.U.length, .mp (.sub d 5), .sl 3 (.sub d 6) G.D.length]),
  (.sub d 1, .map G.bw (G.W.map kvV)), (.sub d 2, .cells true (G.P.map nV)), (.sub d 3, .cells true (G.C.map rowV)), (.sub d 4, .cells true (G.U.map rowV)), (.sub d 5, .map G.bs (G.S.map kvV)), (.sub d 6, .cells true (G.D.flatMap edC))]
structure PS where
 j : Nat
 fr : Bool
 G : GS
 N : List Nd
 E : List (Nat × Nat)
def wCell (fr : Bool) (l : List V) : V := if fr = true then .own 2 [] else .slice 2 l
@[simp] theorem wCell_t (l : List V) : wCell true l = .own 2 [] := rfl
@[simp] theorem wCell_f (l : List V) : wCell false l = .slice 2 l := rfl
theorem played_ok {B : Heap} {sc : List OpS} {G : GS} {N : List Nd} {E : List (Nat × Nat)} (h : PRun B sc 0 gs0 [] [] G N E) (hN : G.N.length = N.length) (hE : G.E.length = E.length) :
  Ok B 12 [.slice 5 (sc.map opV)] [] (.tup [.ref (.sub 0 0) 0, wV2 N E, .bool true]) [] (gNew 0 G) := by
 refine k12 ?_
 have hp : True := trivial
 repeat' first | refine w0 ?_ | refine w1 ?_ | ((first | refine w2 ?_ | refine w3 ?_ | refine w4 ?_ | refine w5 ?_); intro K hK; simp (maxSteps := 4000000) +contextual [hp]; (try (refine finD rfl ?_; simp)); refine hK _ ?_; clear hK K) | ((first | refine w6 rfl ?_ ?_ | refine w7 rfl ?_ ?_) <;> (intro h; replace hp := And.intro h hp; clear h; try simp only [z0, z1, z2, z3, z4, z5, z6, z7, z8, z9, z10, z11, z12] at hp)) | refine w8 ?_ | refine w9 ?_ | refine w10 ?_ | refine w11 ?_ | refine w12 ?_ | refine w13 ?_ | refine w14 ?_ | refine w15 ?_ | refine w16 ?_ | refine w17 ?_ | refine w18 ?_ | refine w19 ?_ | refine w20 ?_ | refine w21 (by decide) ?_ | refine hleave .ret _ (by simp) ?_ | refine hleave (.exit _) _ (by simp) ?_ | refine w22 ?_
 refine s_reg fun K hK => ?_
 simp (maxSteps := 4000000) +contextual [hp]
 refine callK (new_ok) (by simp) ?_
 simp (maxSteps := 4000000) +contextual [hp]
 refine hK _ ?_
 clear hK K
 repeat' first | refine w0 ?_ | refine w1 ?_ | ((first | refine w2 ?_ | refine w3 ?_ | refine w4 ?_ | refine w5 ?_); intro K hK; simp (maxSteps := 4000000) +contextual [hp]; (try (refine finD rfl ?_; simp)); refine hK _ ?_; clear hK K) | ((first | refine w6 rfl ?_ ?_ | refine w7 rfl ?_ ?_) <;> (intro h; replace hp := And.intro h hp; clear h; try simp only [z0, z1, z2, z3, z4, z5, z6, z7, z8, z9, z10, z11, z12] at hp)) | refine w8 ?_ | refine w9 ?_ | refine w10 ?_ | refine w11 ?_ | refine w12 ?_ | refine w13 ?_ | refine w14 ?_ | refine w15 ?_ | refine w16 ?_ | refine w17 ?_ | refine w18 ?_ | refine w19 ?_ | refine w20 ?_ | refine w21 (by decide) ?_ | refine hleave .ret _ (by simp) ?_ | refine hleave (.exit _) _ (by simp) ?_ | refine w22 ?_
 refine c_loopI (fun (p : PS) => (⟨[(0, .slice 5 (sc.map opV)), (3, .ref (.loc 3) 0), (5, .ref (.sub 9 0) 0), (6, .ref (.loc 6) 0), (8, nV p.j)], gSub 9 p.G ++ [(.loc 3, .cells false [.own 2 [], .own 2 []]), (.loc 6, .cells false [wCell p.fr (p.N.map ndV), wCell p.fr (p.E.map prV)])]⟩ : St))
  (fun p => PRun B sc p.j p.G p.N p.E G N E ∧ (p.fr = true → p.N = [] ∧ p.E = [])) (fun p => sc.length - p.j) ⟨0, true, gs0, [], []⟩ (by simp) ⟨h, fun _ => ⟨rfl, rfl⟩⟩ (fun p K' hr hnext hleave => ?_)
 obtain ⟨j, fr, G1, N1, E1⟩ := p
 simp only at hr hnext ⊢
 obtain ⟨hr, hfr⟩ := hr
 have hw : j < 60 → IntKind.wrap .i64 ((j : Int) + 1) = ((j + 1 : Nat) : Int) := fun h => wrapN (by omega) (by omega)
 cases hr with
 | done hd =>
  have hd2 : ¬ ((j : Int) < (sc.length : Int) ∧ (j : Int) < 60) := by omega
  have hdd : (j : Int) < (sc.length : Int) → ¬ (j : Int) < 60 := by omega
  have hdn : j < sc.length → ¬ j < 60 := by omega
  have hNN : (G.N.length : Int) = (N.length : Int) := by omega
  have hEE : (G.E.length : Int) = (E.length : Int) := by omega
  cases fr with
  | true =>
   obtain ⟨rfl, rfl⟩ := hfr rfl
   repeat' first | refine w0 ?_ | refine w1 ?_ | ((first | refine w2 ?_ | refine w3 ?_ | refine w4 ?_ | refine w5 ?_); intro K hK; simp (maxSteps := 4000000) +contextual [hdd, hdn, hp]; (try (refine finD rfl ?_; simp)); refine hK _ ?_; clear hK K) | ((first | refine w6 rfl ?_ ?_ | refine w7 rfl ?_ ?_) <;> (intro h; replace hp := And.intro h hp; clear h; try simp only [z0, z1, z2, z3, z4, z5, z6, z7, z8, z9, z10, z11, z12] at hp)) | refine w8 ?_ | refine w9 ?_ | refine w10 ?_ | refine w11 ?_ | refine w12 ?_ | refine w13 ?_ | refine w14 ?_ | refine w15 ?_ | refine w16 ?_ | refine w17 ?_ | refine w18 ?_ | refine w19 ?_ | refine w20 ?_ | refine w21 (by decide) ?_ | refine hleave .ret _ (by simp) ?_ | refine hleave (.exit _) _ (by simp) ?_ | refine w22 ?_
   refine s_regD fun K hK => ?_
   simp (maxSteps := 4000000) +contextual [hN, hE, hNN, hEE, hp]
   refine callK (len_ok) (by simp) ?_
   simp (maxSteps := 4000000) +contextual [hN, hE, hNN, hEE, hp]
   refine callK (eqs_ok) (by simp) ?_
   simp (maxSteps := 4000000) +contextual [hN, hE, hNN, hEE, hp]
   refine finD rfl ?_
   simp
   refine hK _ ?_
   clear hK K
   repeat' first | refine w0 ?_ | refine w1 ?_ | ((first | refine w2 ?_ | refine w3 ?_ | refine w4 ?_ | refine w5 ?_); intro K hK; simp (maxSteps := 4000000) +contextual [hdd, hdn, hp]; (try (refine finD rfl ?_; simp)); refine hK _ ?_; clear hK K) | ((first | refine w6 rfl ?_ ?_ | refine w7 rfl ?_ ?_) <;> (intro h; replace hp := And.intro h hp; clear h; try simp only [z0, z1, z2, z3, z4, z5, z6, z7, z8, z9, z10, z11, z12] at hp)) | refine w8 ?_ | refine w9 ?_ | refine w10 ?_ | refine w11 ?_ | refine w12 ?_ | refine w13 ?_ | refine w14 ?_ | refine w15 ?_ | refine w16 ?_ | refine w17 ?_ | refine w18 ?_ | refine w19 ?_ | refine w20 ?_ | refine w21 (by decide) ?_ | refine hleave .ret _ (by simp) ?_ | refine hleave (.exit _) _ (by simp) ?_ | refine w22 ?_
   all_goals simp [EndA]
  | false =>
   repeat' first | refine w0 ?_ | refine w1 ?_ | ((first | refine w2 ?_ | refine w3 ?_ | refine w4 ?_ | refine w5 ?_); intro K hK; simp (maxSteps := 4000000) +contextual [hdd, hdn, hp]; (try (refine finD rfl ?_; simp)); refine hK _ ?_; clear hK K) | ((first | refine w6 rfl ?_ ?_ | refine w7 rfl ?_ ?_) <;> (intro h; replace hp := And.intro h hp; clear h; try simp only [z0, z1, z2, z3, z4, z5, z6, z7, z8, z9, z10, z11, z12] at hp)) | refine w8 ?_ | refine w9 ?_ | refine w10 ?_ | refine w11 ?_ | refine w12 ?_ | refine w13 ?_ | refine w14 ?_ | refine w15 ?_ | refine w16 ?_ | refine w17 ?_ | refine w18 ?_ | refine w19 ?_ | refine w20 ?_ | refine w21 (by decide) ?_ | refine hleave .ret _ (by simp) ?_ | refine hleave (.exit _) _ (by simp) ?_ | refine w22 ?_
   refine s_regD fun K hK => ?_
   simp (maxSteps := 4000000) +contextual [hN, hE, hNN, hEE, hp]
   refine callK (len_ok) (by simp) ?_
   simp (maxSteps := 4000000) +contextual [hN, hE, hNN, hEE, hp]
   refine callK (eqs_ok) (by simp) ?_
   simp (maxSteps := 4000000) +contextual [hN, hE, hNN, hEE, hp]
   refine finD rfl ?_
   simp
   refine hK _ ?_
   clear hK K
   repeat' first | refine w0 ?_ | refine w1 ?_ | ((first | refine w2 ?_ | refine w3 ?_ | refine w4 ?_ | refine w5 ?_); intro K hK; simp (maxSteps := 4000000) +contextual [hdd, hdn, hp]; (try (refine finD rfl ?_; simp)); refine hK _ ?_; clear hK K) | ((first | refine w6 rfl ?_ ?_ | refine w7 rfl ?_ ?_) <;> (intro h; replace hp := And.intro h hp; clear h; try simp only [z0, z1, z2, z3, z4, z5, z6, z7, z8, z9, z10, z11, z12] at hp)) | refine w8 ?_ | refine w9 ?_ | refine w10 ?_ | refine w11 ?_ | refine w12 ?_ | refine w13 ?_ | refine w14 ?_ | refine w15 ?_ | refine w16 ?_ | refine w17 ?_ | refine w18 ?_ | refine w19 ?_ | refine w20 ?_ | refine w21 (by decide) ?_ | refine hleave .ret _ (by simp) ?_ | refine hleave (.exit _) _ (by simp) ?_ | refine w22 ?_
   all_goals simp [EndA]
 | skip h1 h2 ha hr =>
  have hw := hw h2
  have h2' : (j : Int) < 60 := by omega
  have h1' : (j : Int) < (sc.length : Int) := by omega
  have ha' : (20 : Int) < ((nth sc j).args.length : Int) := by omega
  cases fr with
  | true =>
   obtain ⟨rfl, rfl⟩ := hfr rfl
   repeat' first | refine w0 ?_ | refine w1 ?_ | ((first | refine w2 ?_ | refine w3 ?_ | refine w4 ?_ | refine w5 ?_); intro K hK; simp (maxSteps := 4000000) +contextual [h1, h1', h2, h2', ha, ha', hp]; (try (refine finD rfl ?_; simp)); refine hK _ ?_; clear hK K) | ((first | refine w6 rfl ?_ ?_ | refine w7 rfl ?_ ?_) <;> (intro h; replace hp := And.intro h hp; clear h; try simp only [z0, z1, z2, z3, z4, z5, z6, z7, z8, z9, z10, z11, z12] at hp)) | refine w8 ?_ | refine w9 ?_ | refine w10 ?_ | refine w11 ?_ | refine w12 ?_ | refine w13 ?_ | refine w14 ?_ | refine w15 ?_ | refine w16 ?_ | refine w17 ?_ | refine w18 ?_ | refine w19 ?_ | refine w20 ?_ | refine w21 (by decide) ?_ | refine hleave .ret _ (by simp) ?_ | refine hleave (.exit _) _ (by simp) ?_ | refine w22 ?_
   refine hnext _ ⟨j + 1, true, G1, [], []⟩ (by simp [hw]) ⟨hr, fun _ => ⟨rfl, rfl⟩⟩ (by simp; omega)
  | false =>
   repeat' first | refine w0 ?_ | refine w1 ?_ | ((first | refine w2 ?_ | refine w3 ?_ | refine w4 ?_ | refine w5 ?_); intro K hK; simp (maxSteps := 4000000) +contextual [h1, h1', h2, h2', ha, ha', hp]; (try (refine finD rfl ?_; simp)); refine hK _ ?_; clear hK K) | ((first | refine w6 rfl ?_ ?_ | refine w7 rfl ?_ ?_) <;> (intro h; replace hp := And.intro h hp; clear h; try simp only [z0, z1, z2, z3, z4, z5, z6, z7, z8, z9, z10, z11, z12] at hp)) | refine w8 ?_ | refine w9 ?_ | refine w10 ?_ | refine w11 ?_ | refine w12 ?_ | refine w13 ?_ | refine w14 ?_ | refine w15 ?_ | refine w16 ?_ | refine w17 ?_ | refine w18 ?_ | refine w19 ?_ | refine w20 ?_ | refine w21 (by decide) ?_ | refine hleave .ret _ (by simp) ?_ | refine hleave (.exit _) _ (by simp) ?_ | refine w22 ?_
   refine hnext _ ⟨j + 1, false, G1, N1, E1⟩ (by simp [hw]) ⟨hr, fun h => by cases h⟩ (by simp; omega)
 | @step _ _ _ _ G2 N2 E2 _ _ _ h1 h2 ha hs hr =>
  have hw := hw h2
  have h2' : (j : Int) < 60 := by omega
  have h1' : (j : Int) < (sc.length : Int) := by omega
  have ha' : ¬ (20 : Int) < ((nth sc j).args.length : Int) := by omega
  cases fr with
  | true =>
   obtain ⟨rfl, rfl⟩ := hfr rfl
   repeat' first | refine w0 ?_ | refine w1 ?_ | ((first | refine w2 ?_ | refine w3 ?_ | refine w4 ?_ | refine w5 ?_); intro K hK; simp (maxSteps := 4000000) +contextual [h1, h1', h2, h2', ha, ha', hp]; (try (refine finD rfl ?_; simp)); refine hK _ ?_; clear hK K) | ((first | refine w6 rfl ?_ ?_ | refine w7 rfl ?_ ?_) <;> (intro h; replace hp := And.intro h hp; clear h; try simp only [z0, z1, z2, z3, z4, z5, z6, z7, z8, z9, z10, z11, z12] at hp)) | refine w8 ?_ | refine w9 ?_ | refine w10 ?_ | refine w11 ?_ | refine w12 ?_ | refine w13 ?_ | refine w14 ?_ | refine w15 ?_ | refine w16 ?_ | refine w17 ?_ | refine w18 ?_ | refine w19 ?_ | refine w20 ?_ | refine w21 (by decide) ?_ | refine hleave .ret _ (by simp) ?_ | refine hleave (.exit _) _ (by simp) ?_ | refine w22 ?_
   refine s_regD fun K hK => ?_
   simp (maxSteps := 4000000) +contextual [h1, hp]
   refine callK (hs) (by simp) ?_
   simp (maxSteps := 4000000) +contextual [h1, hp]
   refine finD rfl ?_
   simp
   refine hK _ ?_
   clear hK K
   repeat' first | refine w0 ?_ | refine w1 ?_ | ((first | refine w2 ?_ | refine w3 ?_ | refine w4 ?_ | refine w5 ?_); intro K hK; simp (maxSteps := 4000000) +contextual [h1, h1', h2, h2', ha, ha', hp]; (try (refine finD rfl ?_; simp)); refine hK _ ?_; clear hK K) | ((first | refine w6 rfl ?_ ?_ | refine w7 rfl ?_ ?_) <;> (intro h; replace hp := And.intro h hp; clear h; try simp only [z0, z1, z2, z3, z4, z5, z6, z7, z8, z9, z10, z11, z12] at hp)) | refine w8 ?_ | refine w9 ?_ | refine w10 ?_ | refine w11 ?_ | refine w12 ?_ | refine w13 ?_ | refine w14 ?_ | refine w15 ?_ | refine w16 ?_ | refine w17 ?_ | refine w18 ?_ | refine w19 ?_ | refine w20 ?_ | refine w21 (by decide) ?_ | refine hleave .ret _ (by simp) ?_ | refine hleave (.exit _) _ (by simp) ?_ | refine w22 ?_
   refine hnext _ ⟨j + 1, false, G2, N2, E2⟩ (by simp [hw]) ⟨hr, fun h => by cases h⟩ (by simp; omega)
  | false =>
   repeat' first | refine w0 ?_ | refine w1 ?_ | ((first | refine w2 ?_ | refine w3 ?_ | refine w4 ?_ | refine w5 ?_); intro K hK; simp (maxSteps := 4000000) +contextual [h1, h1', h2, h2', ha, ha', hp]; (try (refine finD rfl ?_; simp)); refine hK _ ?_; clear hK K) | ((first | refine w6 rfl ?_ ?_ | refine w7 rfl ?_ ?_) <;> (intro h; replace hp := And.intro h hp; clear h; try simp only [z0, z1, z2, z3, z4, z5, z6, z7, z8, z9, z10, z11, z12] at hp)) | refine w8 ?_ | refine w9 ?_ | refine w10 ?_ | refine w11 ?_ | refine w12 ?_ | refine w13 ?_ | refine w14 ?_ | refine w15 ?_ | refine w16 ?_ | refine w17 ?_ | refine w18 ?_ | refine w19 ?_ | refine w20 ?_ | refine w21 (by decide) ?_ | refine hleave .ret _ (by simp) ?_ | refine hleave (.exit _) _ (by simp) ?_ | refine w22 ?_
   refine s_regD fun K hK => ?_
   simp (maxSteps := 4000000) +contextual [h1, hp]
   refine callK (hs) (by simp) ?_
   simp (maxSteps := 4000000) +contextual [h1, hp]
   refine finD rfl ?_
   simp
   refine hK _ ?_
   clear hK K
   repeat' first | refine w0 ?_ | refine w1 ?_ | ((first | refine w2 ?_ | refine w3 ?_ | refine w4 ?_ | refine w5 ?_); intro K hK; simp (maxSteps := 4000000) +contextual [h1, h1', h2, h2', ha, ha', hp]; (try (refine finD rfl ?_; simp)); refine hK _ ?_; clear hK K) | ((first | refine w6 rfl ?_ ?_ | refine w7 rfl ?_ ?_) <;> (intro h; replace hp := And.intro h hp; clear h; try simp only [z0, z1, z2, z3, z4, z5, z6, z7, z8, z9, z10, z11, z12] at hp)) | refine w8 ?_ | refine w9 ?_ | refine w10 ?_ | refine w11 ?_ | refine w12 ?_ | refine w13 ?_ | refine w14 ?_ | refine w15 ?_ | refine w16 ?_ | refine w17 ?_ | refine w18 ?_ | refine w19 ?_ | refine w20 ?_ | refine w21 (by decide) ?_ | refine hleave .ret _ (by simp) ?_ | refine hleave (.exit _) _ (by simp) ?_ | refine w22 ?_
   refine hnext _ ⟨j + 1, false, G2, N2, E2⟩ (by simp [hw]) ⟨hr, fun h => by cases h⟩ (by simp; omega)
end Go.Proofs.YtjabgfnljbnmmaaDoor
