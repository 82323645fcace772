/- A part of the proof of a law of this seat: no condition. -/
import Derived.Test.YtjabgfnljbnmmaaDoorXD
import Derived.Test.YtjabgfnljbnmmaaDoorD4
import Derived.Test.YtjabgfnljbnmmaaDoorE18
import Derived.Test.YtjabgfnljbnmmaaDoorTB1
set_option linter.unusedVariables false
set_option linter.unusedSimpArgs false
set_option maxRecDepth 20000
set_option maxHeartbeats 40000000
namespace Go.Proofs.YtjabgfnljbnmmaaDoor
open Go.Ax
attribute [-simp] List.map_set
def wl (c : List Nat) (i j : Nat) : List Nat := (List.range j).filter fun k => decide (nth c k = i)
def wants (c : List Nat) (j : Nat) : List (List Nat) := ((List.range j).filter fun i => decide (nth c i = i)).map fun i => wl c i c.length
theorem wl_step (c : List Nat) (i j : Nat) : wl c i (j + 1) = if nth c j = i then wl c i j ++ [j] else wl c i j := by
 unfold wl
 rw [List.range_succ, List.filter_append]
 by_cases h : nth c j = i
 ·rw [if_pos h]; simp [h]
 ·rw [if_neg h]; simp [h]
theorem wants_step (c : List Nat) (j : Nat) : wants c (j + 1) = if nth c j = j then wants c j ++ [wl c j c.length] else wants c j := by
 unfold wants
 rw [List.range_succ, List.filter_append, List.map_append]
 by_cases h : nth c j = j
 ·rw [if_pos h]; simp [h]
 ·rw [if_neg h]; simp [h]
theorem wl_len (c : List Nat) (i j : Nat) : (wl c i j).length ≤ j := by
 unfold wl
 exact Nat.le_trans (List.length_filter_le _ _) (by simp)
theorem wants_len (c : List Nat) (j : Nat) : (wants c j).length ≤ j := by
 unfold wants
 rw [List.length_map]
 exact Nat.le_trans (List.length_filter_le _ _) (by simp)
theorem tl_ok {B : Heap} {G : GS} {leave : Int} {W : List (List Nat)} {n : Nat} (h : n = W.length ∨ (n : Int) = leave) : acwp (COk Tryd.prog B) ctl10 (st10 G leave W n)
  fun e st => e = .ret ∧ st = ⟨[(4, .ref (.loc 4) 0)], [(.loc 4, .cells false [.bool true])]⟩ := by
 have hp : True := trivial
 by_cases h1 : n = W.length
 ·have h2 : (n : Int) = (W.length : Int) := by omega
  repeat' first | refine w0 ?_ | refine w1 ?_ | ((first | refine w2 ?_ | refine w3 ?_ | refine w4 ?_ | refine w5 ?_); intro K hK; simp (maxSteps := 4000000) +contextual [h1, h2, hp]; (try (refine finD rfl ?_; simp)); refine hK _ ?_; clear hK K) | ((first | refine w6 rfl ?_ ?_ | refine w7 rfl ?_ ?_) <;> (intro h; replace hp := And.intro h hp; clear h; try simp only [z0, z1, z2, z3, z4, z5, z6, z7, z8, z9, z10, z11, z12] at hp)) | refine w8 ?_ | refine w9 ?_ | refine w10 ?_ | refine w11 ?_ | refine w12 ?_ | refine w13 ?_ | refine w14 ?_ | refine w15 ?_ | refine w16 ?_ | refine w17 ?_ | refine w18 ?_ | refine w19 ?_ | refine w20 ?_ | refine w21 (by decide) ?_ | refine w22 ?_
  all_goals simp
 ·have h2 : ¬ (n : Int) = (W.length : Int) := by omega
  have h3 : (n : Int) = leave := by rcases h with h | h; exact absurd h h1; exact h
  repeat' first | refine w0 ?_ | refine w1 ?_ | ((first | refine w2 ?_ | refine w3 ?_ | refine w4 ?_ | refine w5 ?_); intro K hK; simp (maxSteps := 4000000) +contextual [h1, h2, h3, hp]; (try (refine finD rfl ?_; simp)); refine hK _ ?_; clear hK K) | ((first | refine w6 rfl ?_ ?_ | refine w7 rfl ?_ ?_) <;> (intro h; replace hp := And.intro h hp; clear h; try simp only [z0, z1, z2, z3, z4, z5, z6, z7, z8, z9, z10, z11, z12] at hp)) | refine w8 ?_ | refine w9 ?_ | refine w10 ?_ | refine w11 ?_ | refine w12 ?_ | refine w13 ?_ | refine w14 ?_ | refine w15 ?_ | refine w16 ?_ | refine w17 ?_ | refine w18 ?_ | refine w19 ?_ | refine w20 ?_ | refine w21 (by decide) ?_ | refine w22 ?_
  all_goals simp
theorem pre_ok {B : Heap} {sc : List OpS} {G : GS} {N : List Nd} {E : List (Nat × Nat)} {c : List Nat} {leave : Int} (hA : Ok B 11 [] [] (.bool true) [] [])
  (hP : Ok B 12 [.slice 5 (sc.map opV)] [] (.tup [.ref (.sub 0 0) 0, wV2 N E, .bool true]) [] (gNew 0 G)) (hN : G.N = N) (hcl : c.length = N.length) (hsm : c.length ≤ 1000)
  (hC : Ok B 15 [wV2 N E] [] (.sl 1 (.sub 0 0) N.length) [] [.cells true (c.map nV)]) :
  acwp (COk Tryd.prog B) cpre10 (initM (mvOf [.slice 5 (sc.map opV), iV leave] []) [.slice 5 (sc.map opV), iV leave] []) fun e st => e = .normal ∧ st = st10 G leave (wants c c.length) 0 := by
 have hp : True := trivial
 repeat' first | refine w0 ?_ | refine w1 ?_ | ((first | refine w2 ?_ | refine w3 ?_ | refine w4 ?_ | refine w5 ?_); intro K hK; simp (maxSteps := 4000000) +contextual [hp]; (try (refine finD rfl ?_; simp)); refine hK _ ?_; clear hK K) | ((first | refine w6 rfl ?_ ?_ | refine w7 rfl ?_ ?_) <;> (intro h; replace hp := And.intro h hp; clear h; try simp only [z0, z1, z2, z3, z4, z5, z6, z7, z8, z9, z10, z11, z12] at hp)) | refine w8 ?_ | refine w9 ?_ | refine w10 ?_ | refine w11 ?_ | refine w12 ?_ | refine w13 ?_ | refine w14 ?_ | refine w15 ?_ | refine w16 ?_ | refine w17 ?_ | refine w18 ?_ | refine w19 ?_ | refine w20 ?_ | refine w21 (by decide) ?_ | refine hleave .ret _ (by simp) ?_ | refine hleave (.exit _) _ (by simp) ?_ | refine w22 ?_
 refine s_reg fun K hK => ?_
 simp (maxSteps := 4000000) +contextual [hp]
 refine callK (hA) (by simp) ?_
 simp (maxSteps := 4000000) +contextual [hp]
 refine hK _ ?_
 clear hK K
 repeat' first | refine w0 ?_ | refine w1 ?_ | ((first | refine w2 ?_ | refine w3 ?_ | refine w4 ?_ | refine w5 ?_); intro K hK; simp (maxSteps := 4000000) +contextual [hp]; (try (refine finD rfl ?_; simp)); refine hK _ ?_; clear hK K) | ((first | refine w6 rfl ?_ ?_ | refine w7 rfl ?_ ?_) <;> (intro h; replace hp := And.intro h hp; clear h; try simp only [z0, z1, z2, z3, z4, z5, z6, z7, z8, z9, z10, z11, z12] at hp)) | refine w8 ?_ | refine w9 ?_ | refine w10 ?_ | refine w11 ?_ | refine w12 ?_ | refine w13 ?_ | refine w14 ?_ | refine w15 ?_ | refine w16 ?_ | refine w17 ?_ | refine w18 ?_ | refine w19 ?_ | refine w20 ?_ | refine w21 (by decide) ?_ | refine hleave .ret _ (by simp) ?_ | refine hleave (.exit _) _ (by simp) ?_ | refine w22 ?_
 refine s_reg fun K hK => ?_
 simp (maxSteps := 4000000) +contextual [hp]
 refine callK (hP) (by simp) ?_
 simp (maxSteps := 4000000) +contextual [hp]
 refine hK _ ?_
 clear hK K
 repeat' first | refine w0 ?_ | refine w1 ?_ | ((first | refine w2 ?_ | refine w3 ?_ | refine w4 ?_ | refine w5 ?_); intro K hK; simp (maxSteps := 4000000) +contextual [hp]; (try (refine finD rfl ?_; simp)); refine hK _ ?_; clear hK K) | ((first | refine w6 rfl ?_ ?_ | refine w7 rfl ?_ ?_) <;> (intro h; replace hp := And.intro h hp; clear h; try simp only [z0, z1, z2, z3, z4, z5, z6, z7, z8, z9, z10, z11, z12] at hp)) | refine w8 ?_ | refine w9 ?_ | refine w10 ?_ | refine w11 ?_ | refine w12 ?_ | refine w13 ?_ | refine w14 ?_ | refine w15 ?_ | refine w16 ?_ | refine w17 ?_ | refine w18 ?_ | refine w19 ?_ | refine w20 ?_ | refine w21 (by decide) ?_ | refine hleave .ret _ (by simp) ?_ | refine hleave (.exit _) _ (by simp) ?_ | refine w22 ?_
 refine s_reg fun K hK => ?_
 simp (maxSteps := 4000000) +contextual [hp]
 refine callK (hC) (by simp) ?_
 simp (maxSteps := 4000000) +contextual [hp]
 refine hK _ ?_
 clear hK K
 repeat' first | refine w0 ?_ | refine w1 ?_ | ((first | refine w2 ?_ | refine w3 ?_ | refine w4 ?_ | refine w5 ?_); intro K hK; simp (maxSteps := 4000000) +contextual [hp]; (try (refine finD rfl ?_; simp)); refine hK _ ?_; clear hK K) | ((first | refine w6 rfl ?_ ?_ | refine w7 rfl ?_ ?_) <;> (intro h; replace hp := And.intro h hp; clear h; try simp only [z0, z1, z2, z3, z4, z5, z6, z7, z8, z9, z10, z11, z12] at hp)) | refine w8 ?_ | refine w9 ?_ | refine w10 ?_ | refine w11 ?_ | refine w12 ?_ | refine w13 ?_ | refine w14 ?_ | refine w15 ?_ | refine w16 ?_ | refine w17 ?_ | refine w18 ?_ | refine w19 ?_ | refine w20 ?_ | refine w21 (by decide) ?_ | refine hleave .ret _ (by simp) ?_ | refine hleave (.exit _) _ (by simp) ?_ | refine w22 ?_
 refine c_loopI (fun (j : Nat) => (⟨[(3, .ref (.loc 3) 0), (4, .ref (.loc 4) 0), (5, .ref (.sub 19 0) 0), (8, .sl 1 (.sub 26 0) N.length), (9, .ref (.loc 9) 0), (10, nV j)],
   gSub 19 G ++ [(.sub 26 0, .cells true (c.map nV)), (.loc 3, .cells false [iV leave]), (.loc 4, .cells false [.bool false]), (.loc 9, .cells false [.own 1 ((wants c j).map lsV)])]⟩ : St))
  (fun j => j ≤ c.length) (fun j => c.length - j) 0 (by simp [wants]) (Nat.zero_le _) (fun j K' hj hnext hleave => ?_)
 by_cases hjl : j < c.length
 ·have hw : IntKind.wrap .i64 ((j : Int) + 1) = ((j + 1 : Nat) : Int) := wrapN (by omega) (by omega)
  have h1 : j < N.length := by omega
  have h2 : (j : Int) < (N.length : Int) := by omega
  have hws := wants_step c j
  by_cases hcj : nth c j = j
  ·rw [if_pos hcj] at hws
   have h3 : ((nth c j : Nat) : Int) = (j : Int) := by omega
   have h4 : ¬ ((nth c j : Nat) : Int) ≠ (j : Int) := by omega
   repeat' first | refine w0 ?_ | refine w1 ?_ | ((first | refine w2 ?_ | refine w3 ?_ | refine w4 ?_ | refine w5 ?_); intro K hK; simp (maxSteps := 4000000) +contextual [hjl, h1, h2, h3, h4, hp]; (try (refine finD rfl ?_; simp)); refine hK _ ?_; clear hK K) | ((first | refine w6 rfl ?_ ?_ | refine w7 rfl ?_ ?_) <;> (intro h; replace hp := And.intro h hp; clear h; try simp only [z0, z1, z2, z3, z4, z5, z6, z7, z8, z9, z10, z11, z12] at hp)) | refine w8 ?_ | refine w9 ?_ | refine w10 ?_ | refine w11 ?_ | refine w12 ?_ | refine w13 ?_ | refine w14 ?_ | refine w15 ?_ | refine w16 ?_ | refine w17 ?_ | refine w18 ?_ | refine w19 ?_ | refine w20 ?_ | refine w21 (by decide) ?_ | refine hleave .ret _ (by simp) ?_ | refine hleave (.exit _) _ (by simp) ?_ | refine w22 ?_
   refine c_loopI (fun (k : Nat) => (⟨[(3, .ref (.loc 3) 0), (4, .ref (.loc 4) 0), (5, .ref (.sub 19 0) 0), (8, .sl 1 (.sub 26 0) N.length), (9, .ref (.loc 9) 0), (10, nV j), (11, .own 1 ((wl c j k).map nV)), (12, nV k)],
     gSub 19 G ++ [(.sub 26 0, .cells true (c.map nV)), (.loc 3, .cells false [iV leave]), (.loc 4, .cells false [.bool false]), (.loc 9, .cells false [.own 1 ((wants c j).map lsV)])]⟩ : St))
    (fun k => k ≤ c.length) (fun k => c.length - k) 0 (by simp [wl]) (Nat.zero_le _) (fun k K2 hk hnext2 hleave2 => ?_)
   have hleave := hleave2
   by_cases hkl : k < c.length
   ·have hw2 : IntKind.wrap .i64 ((k : Int) + 1) = ((k + 1 : Nat) : Int) := wrapN (by omega) (by omega)
    have h5 : k < N.length := by omega
    have h6 : (k : Int) < (N.length : Int) := by omega
    have hs := wl_step c j k
    have hwl := wl_len c j k
    have h9 : ((wl c j k).length + 1) * 8 ≤ 140737488355328 := by omega
    by_cases hck : nth c k = j
    ·rw [if_pos hck] at hs
     have h7 : ((nth c k : Nat) : Int) = (j : Int) := by omega
     repeat' first | refine w0 ?_ | refine w1 ?_ | ((first | refine w2 ?_ | refine w3 ?_ | refine w4 ?_ | refine w5 ?_); intro K hK; simp (maxSteps := 4000000) +contextual [hkl, h5, h6, h7, h9, hp]; (try (refine finD rfl ?_; simp)); refine hK _ ?_; clear hK K) | ((first | refine w6 rfl ?_ ?_ | refine w7 rfl ?_ ?_) <;> (intro h; replace hp := And.intro h hp; clear h; try simp only [z0, z1, z2, z3, z4, z5, z6, z7, z8, z9, z10, z11, z12] at hp)) | refine w8 ?_ | refine w9 ?_ | refine w10 ?_ | refine w11 ?_ | refine w12 ?_ | refine w13 ?_ | refine w14 ?_ | refine w15 ?_ | refine w16 ?_ | refine w17 ?_ | refine w18 ?_ | refine w19 ?_ | refine w20 ?_ | refine w21 (by decide) ?_ | refine hleave .ret _ (by simp) ?_ | refine hleave (.exit _) _ (by simp) ?_ | refine w22 ?_
     all_goals refine hnext2 _ (k + 1) (by simp [hw2, hs]) (by omega) (by omega)
    ·rw [if_neg hck] at hs
     have h7 : ¬ ((nth c k : Nat) : Int) = (j : Int) := by omega
     repeat' first | refine w0 ?_ | refine w1 ?_ | ((first | refine w2 ?_ | refine w3 ?_ | refine w4 ?_ | refine w5 ?_); intro K hK; simp (maxSteps := 4000000) +contextual [hkl, h5, h6, h7, hp]; (try (refine finD rfl ?_; simp)); refine hK _ ?_; clear hK K) | ((first | refine w6 rfl ?_ ?_ | refine w7 rfl ?_ ?_) <;> (intro h; replace hp := And.intro h hp; clear h; try simp only [z0, z1, z2, z3, z4, z5, z6, z7, z8, z9, z10, z11, z12] at hp)) | refine w8 ?_ | refine w9 ?_ | refine w10 ?_ | refine w11 ?_ | refine w12 ?_ | refine w13 ?_ | refine w14 ?_ | refine w15 ?_ | refine w16 ?_ | refine w17 ?_ | refine w18 ?_ | refine w19 ?_ | refine w20 ?_ | refine w21 (by decide) ?_ | refine hleave .ret _ (by simp) ?_ | refine hleave (.exit _) _ (by simp) ?_ | refine w22 ?_
     all_goals refine hnext2 _ (k + 1) (by simp [hw2, hs]) (by omega) (by omega)
   ·have h5 : ¬ k < N.length := by omega
    have h6 : ¬ (k : Int) < (N.length : Int) := by omega
    have hke : k = c.length := by omega
    subst hke
    have hwn := wants_len c j
    have h9 : ((wants c j).length + 1) * 24 ≤ 140737488355328 := by omega
    repeat' first | refine w0 ?_ | refine w1 ?_ | ((first | refine w2 ?_ | refine w3 ?_ | refine w4 ?_ | refine w5 ?_); intro K hK; simp (maxSteps := 4000000) +contextual [h5, h6, h9, hp]; (try (refine finD rfl ?_; simp)); refine hK _ ?_; clear hK K) | ((first | refine w6 rfl ?_ ?_ | refine w7 rfl ?_ ?_) <;> (intro h; replace hp := And.intro h hp; clear h; try simp only [z0, z1, z2, z3, z4, z5, z6, z7, z8, z9, z10, z11, z12] at hp)) | refine w8 ?_ | refine w9 ?_ | refine w10 ?_ | refine w11 ?_ | refine w12 ?_ | refine w13 ?_ | refine w14 ?_ | refine w15 ?_ | refine w16 ?_ | refine w17 ?_ | refine w18 ?_ | refine w19 ?_ | refine w20 ?_ | refine w21 (by decide) ?_ | refine hleave .ret _ (by simp) ?_ | refine hleave (.exit _) _ (by simp) ?_ | refine w22 ?_
    all_goals refine hnext _ (j + 1) (by simp [hw, hws]) (by omega) (by omega)
  ·rw [if_neg hcj] at hws
   have h3 : ¬ ((nth c j : Nat) : Int) = (j : Int) := by omega
   have h4 : ((nth c j : Nat) : Int) ≠ (j : Int) := by omega
   repeat' first | refine w0 ?_ | refine w1 ?_ | ((first | refine w2 ?_ | refine w3 ?_ | refine w4 ?_ | refine w5 ?_); intro K hK; simp (maxSteps := 4000000) +contextual [hjl, h1, h2, h3, h4, hp]; (try (refine finD rfl ?_; simp)); refine hK _ ?_; clear hK K) | ((first | refine w6 rfl ?_ ?_ | refine w7 rfl ?_ ?_) <;> (intro h; replace hp := And.intro h hp; clear h; try simp only [z0, z1, z2, z3, z4, z5, z6, z7, z8, z9, z10, z11, z12] at hp)) | refine w8 ?_ | refine w9 ?_ | refine w10 ?_ | refine w11 ?_ | refine w12 ?_ | refine w13 ?_ | refine w14 ?_ | refine w15 ?_ | refine w16 ?_ | refine w17 ?_ | refine w18 ?_ | refine w19 ?_ | refine w20 ?_ | refine w21 (by decide) ?_ | refine hleave .ret _ (by simp) ?_ | refine hleave (.exit _) _ (by simp) ?_ | refine w22 ?_
   all_goals refine hnext _ (j + 1) (by simp [hw, hws]) (by omega) (by omega)
 ·have h1 : ¬ j < N.length := by omega
  have h2 : ¬ (j : Int) < (N.length : Int) := by omega
  have hje : j = c.length := by omega
  subst hje
  repeat' first | refine w0 ?_ | refine w1 ?_ | ((first | refine w2 ?_ | refine w3 ?_ | refine w4 ?_ | refine w5 ?_); intro K hK; simp (maxSteps := 4000000) +contextual [h1, h2, hp]; (try (refine finD rfl ?_; simp)); refine hK _ ?_; clear hK K) | ((first | refine w6 rfl ?_ ?_ | refine w7 rfl ?_ ?_) <;> (intro h; replace hp := And.intro h hp; clear h; try simp only [z0, z1, z2, z3, z4, z5, z6, z7, z8, z9, z10, z11, z12] at hp)) | refine w8 ?_ | refine w9 ?_ | refine w10 ?_ | refine w11 ?_ | refine w12 ?_ | refine w13 ?_ | refine w14 ?_ | refine w15 ?_ | refine w16 ?_ | refine w17 ?_ | refine w18 ?_ | refine w19 ?_ | refine w20 ?_ | refine w21 (by decide) ?_ | refine hleave .ret _ (by simp) ?_ | refine hleave (.exit _) _ (by simp) ?_ | refine w22 ?_
  refine c_reg fun K hK => ?_
  simp (maxSteps := 4000000) +contextual [hp]
  refine callK (classes_ok) (by simp) ?_
  simp (maxSteps := 4000000) +contextual [hp]
  refine hK _ ?_
  clear hK K
  simp
set_option maxHeartbeats 4000000
theorem res10 : Tryd.f10.results = #[.cell 4 4] := by kernel_rfl
theorem nt10 : Tryd.f10.ntmps = 89 := by kernel_rfl
section
variable {F : Fr} {G : GS} {leave : Int} {W : List (List Nat)} {cnt : Nat → Nat} {H : Heap} {μ : Oid → Option Nat} {w : World} {k : Nat} {a : Act}
theorem range_ok (hC : Cls G W cnt) (hat : AtS H μ F (st10 G leave W 0) a w 89 ⟨[], [], fun _ => undef⟩) {K : Exit → Act → World → Prop}
  (hK : ∀ (n : Nat) (g : Nat) (H' : Heap) (μ' : Oid → Option Nat) (a' : Act) (w' : World), n = W.length ∨ (n : Int) = leave → ¬ F.F g → F.B.blk g = none → w'.heap[g]? = some (.deferred (some [])) →
   AtS H' μ' (F.plus g) (st10 G leave W n) a' w' 89 ⟨[{ target := .collected g, args := #[] }], [], fun _ => undef⟩ → Ext F H w H' w' → K .normal a' w') :
  (Code.block 4 (.rangeFunc (.tmp 60) #[61] asg10 bdy10)).wpIn Fence.wide k Tryd.prog K a w := by
 obtain ⟨b, h60⟩ := box_ex hat.rel rfl
 have hsz := hat.size
 have e60 : a.eval (.tmp 60) = .func (.func 40) #[] #[Pb b] := h60
 refine wpIn_block (wpIn_rangeFunc fun fn _ => ?_)
 have hg1 : (w.alloc (.deferred (some []))).heap.size = w.heap.size + 1 := by show (w.heap.push _).size = _; simp
 generalize hrec : ({ state := .ready, pending := none, fn, tmps := a.tmps, params := #[61], assign := asg10, body := bdy10, defers := w.heap.size } : Loop) = rec
 have hlt : ∀ x, F.F x → x < w.heap.size := hat.rel.Flt.1
 have hctx : Ctx40 F a w.heap.size (w.heap.size + 1) b rec := by
  subst hrec
  refine ⟨h60, hsz, by omega, fun h => by have := hlt _ h; omega, fun h => by have := hlt _ h; omega, ?_, ?_, rfl, rfl, rfl, rfl, rfl, rfl⟩
  ·cases hb : F.B.blk w.heap.size with
   | none => rfl
   | some o => have := hlt _ (hat.rel.Flt.2 _ _ hb).1; omega
  ·cases hb : F.B.blk (w.heap.size + 1) with
   | none => rfl
   | some o => have := hlt _ (hat.rel.Flt.2 _ _ hb).1; omega
 refine ⟨w.heap.size + 1, [{ target := .collected w.heap.size, args := #[] }], (w.alloc (.deferred (some []))).alloc (.loop rec), { target := .fn (.func 40) #[Pb b], args := #[Yl (w.heap.size + 1)] }, (w.alloc (.deferred (some []))).alloc (.loop rec), 40, #[Yl (w.heap.size + 1), Pb b], (w.alloc (.deferred (some []))).alloc (.loop rec), ?_, ?_, fun _ _ => trivial, ?_, (fun h => by cases h), ?_⟩
 ·rw [← hrec]
  exact run_enterLoop_outer fn a.tmps #[61] asg10 bdy10
 ·have e60' : a.tmps[60]?.getD undef = .func (.func 40) #[] #[Pb b] := by
   rw [← e60]; simp [Act.eval]
  simp [resolve, rangeCall, Deferred.ofValue, Act.eval, e60']
 ·show (callFunc 40 _).run _ _ = _
  exact Tryd.call40 _ _
 have hh : ((w.alloc (.deferred (some []))).alloc (.loop rec)).heap = w.heap ++ #[.deferred (some []), .loop rec] := by
  show (w.heap.push _).push _ = _
  apply Array.ext'
  simp
 have hg : ((w.alloc (.deferred (some []))).alloc (.loop rec)).heap[w.heap.size]? = some (.deferred (some [])) := by
  rw [hh, Array.getElem?_append_right (Nat.le_refl _)]; simp
 have hl : ((w.alloc (.deferred (some []))).alloc (.loop rec)).heap[w.heap.size + 1]? = some (.loop rec) := by
  rw [hh, Array.getElem?_append_right (by omega)]; simp
 have r1 := hat.rel.grow [.deferred (some []), .loop rec] (w' := (w.alloc (.deferred (some []))).alloc (.loop rec)) (by rw [hh])
 have hx1 : Ext F H w H ((w.alloc (.deferred (some []))).alloc (.loop rec)) := ⟨⟨rfl, rfl, rfl⟩, Le.refl _, by rw [hh]; simp, fun x hx hxl => by rw [hh, Array.getElem?_append_left hxl], fun _ _ _ _ => rfl⟩
 have r2 := (r1.fence hg rfl).fence hl rfl
 have hw0 : Wld F a w.heap.size (w.heap.size + 1) rec G leave W 0 H w ((w.alloc (.deferred (some []))).alloc (.loop rec)) := ⟨⟨H, μ, r2, hx1⟩, hl, hg⟩
 generalize ((w.alloc (.deferred (some []))).alloc (.loop rec)) = w1 at *
 generalize w.heap.size + 1 = l at *
 generalize hgs : w.heap.size = g at *
 refine frame40_ok hctx hC hw0 fun v jump n w3 hdone => ?_
 obtain ⟨hj, hwd⟩ := hdone
 obtain ⟨H3, μ3, r3, x3⟩ := hwd.rel
 have hl3 := hwd.hl
 have hg3 := hwd.hg
 have hnb : ({ rec with state := if jump.isNone then .ready else .done, pending := jump } : Loop).state ≠ .busy := by
  cases jump <;> simp
 have hjj : n = W.length ∨ (n : Int) = leave := by rcases hj with ⟨_, h⟩ | ⟨_, h⟩; exact .inl h; exact .inr h
 have hfin : ∀ r' : Loop, K .normal { a with defers := [{ target := .collected g, args := #[] }] ++ a.defers } (w3.putObj l (.loop r')) := by
  intro r'
  have r4 := (r3.turnF (o' := .loop r') hl3 rfl rfl hctx.Bl).unfence (F := F.plus g) fun x o hx => .inl (hat.rel.Flt.2 x o hx).1
  refine hK n g H3 μ3 _ _ hjj hctx.Fg hctx.Bg ((World.putObj_heap_other hctx.gl).trans hg3) ⟨r4, hsz, by rw [hat.defers]; rfl, fun t ht => by cases ht⟩ (x3.trans (Ext.turn _ hctx.Fl))
 refine ⟨jump, _, run_endLoop hl3 hnb, ?_⟩
 rcases hj with ⟨rfl, hj⟩ | ⟨rfl, hj⟩
 ·exact hfin _
 ·exact wpIn_exit (hfin _)
end
theorem of_ite {b : Bool} {α : Type} {x : Option α} {y : α} (h : (if b then x else none) = some y) : b = true ∧ x = some y := by
 cases b with
 | true => exact ⟨rfl, h⟩
 | false => cases h
theorem end10 : EndA (tabT tab) [.cell 4 4] ([] : List Ob).length [] [] (.bool true) [] [] .normal ⟨[(4, .ref (.loc 4) 0)], [(.loc 4, .cells false [.bool true])]⟩ := by
 simp [EndA]
theorem classes10 {B : Heap} {sc : List OpS} {G : GS} {N : List Nd} {E : List (Nat × Nat)} {c : List Nat} {leave : Int} {cnt : Nat → Nat} (hA : Ok B 11 [] [] (.bool true) [] [])
  (hP : Ok B 12 [.slice 5 (sc.map opV)] [] (.tup [.ref (.sub 0 0) 0, wV2 N E, .bool true]) [] (gNew 0 G)) (hN : G.N = N) (hcl : c.length = N.length) (hsm : c.length ≤ 1000)
  (hCl : Ok B 15 [wV2 N E] [] (.sl 1 (.sub 0 0) N.length) [] [.cells true (c.map nV)]) (hC : Cls G (wants c c.length) cnt) :
  Ok B 10 [.slice 5 (sc.map opV), iV leave] [] (.bool true) [] [] := by
 refine ⟨Tryd.call10, rfl, fun H F w μ vs hFB hvs hr => ?_⟩
 subst hFB
 have hmv : mvOf [V.slice 5 (sc.map opV), iV leave] [] = [] := rfl
 rw [hmv]
 refine callsIn_wide.1 (callsIn_of_wp_marks (n := 1) Tryd.func10 b10_eq trivial ?_)
 have hsz : ({ tmps := vs.toArray ++ Array.replicate (Tryd.f10.ntmps - vs.toArray.size) undef, defers := [] } : Act).tmps.size = 89 := by
  have : vs.length = 2 := by rw [← hvs]; rfl
  simp [nt10, this]
 obtain ⟨μ0, hr0, hG⟩ := init_rel (mv := []) (m := Tryd.f10.ntmps - vs.toArray.size) hvs hr
 have hat : AtS H μ0 ⟨F.F, fun j => if j < ([] : List Ob).length then F.G j else none, F.B⟩ (initM (mvOf [V.slice 5 (sc.map opV), iV leave] []) [.slice 5 (sc.map opV), iV leave] []) { tmps := vs.toArray ++ Array.replicate (Tryd.f10.ntmps - vs.toArray.size) undef, defers := [] } w 89 ⟨[], [], fun _ => undef⟩ :=
  ⟨hr0, hsz, rfl, fun t h => by cases h⟩
 generalize ({ tmps := vs.toArray ++ Array.replicate (Tryd.f10.ntmps - vs.toArray.size) undef, defers := [] } : Act) = a at *
 generalize hF0 : (⟨F.F, fun j => if j < ([] : List Ob).length then F.G j else none, F.B⟩ : Fr) = F0 at *
 have hB : F0.B = F.B := by rw [← hF0]
 have hFF : F0.F = F.F := by rw [← hF0]
 refine wpIn_wide.2 (cut_sound (F := F0) (Q := fun e st => e = .normal ∧ st = st10 G leave (wants c c.length) 0) (n := 89) (D := ⟨[], [], fun _ => undef⟩) tabOk mixed b10 cut10 (of_ite hpre).1 (of_ite hpre).2 (by rw [hB]; exact pre_ok hA hP hN hcl hsm hCl) hat (fun e st' a' w' H' μ' hne hq => absurd hq.1 hne) fun st1 a1 w1 H1 μ1 hq hat1 hx1 => ?_)
 obtain ⟨_, rfl⟩ := hq
 refine wpIn_wide.1 (range_ok (k := 1) hC hat1 fun n g H2 μ2 a2 w2 hn hgF hgB hg hat2 hx2 => ?_)
 show tl10.wp _ _ _ _
 refine piece_sound (F := F0.plus g) (n := 89) (D := ⟨[{ target := .collected g, args := #[] }], [], fun _ => undef⟩) tabOk mixed htl (tl_ok (B := (F0.plus g).B) hn) hat2 fun e st3 a3 w3 H3 μ3 hq hat3 hx3 => ?_
 obtain ⟨rfl, rfl⟩ := hq
 have hg3 : w3.heap[g]? = some (.deferred (some [])) := by rw [hx3.frm g (.inr rfl) (Array.getElem?_eq_some_iff.1 hg).1]; exact hg
 have r4 := (hat3.rel.turnF (o' := .deferred none) hg3 rfl rfl hgB).unfence (F := F0) fun x o hx => (hat1.rel.Flt.2 x o hx).1
 show LeavesInM _ _ _ _ _ _ a3.defers _ _
 rw [hat3.defers]
 refine ⟨by simp, .inl ⟨g, _, rfl, run_takeDeferred hg3, ?_⟩⟩
 have hx4 : Ext F0 H w H3 (w3.putObj g (.deferred none)) := ((hx1.trans hx2).trans hx3.unplus).trans (Ext.turn _ hgF)
 have hat4 : AtS H3 μ3 F0 ⟨[(4, .ref (.loc 4) 0)], [(.loc 4, .cells false [.bool true])]⟩ { a3 with defers := [] } (w3.putObj g (.deferred none)) 89 ⟨[], [], fun _ => undef⟩ := ⟨r4, hat3.size, rfl, fun t h => by cases h⟩
 subst hF0
 obtain ⟨_, e1, e2, e3⟩ := end10
 obtain ⟨u, k1, v, H5, μ5, F', k2, k3, k4, k5, k6, k7⟩ := fin_at (fn := Tryd.f10) (mv := []) (nwl := []) (objs := []) (objs' := []) (news := []) tabOk rfl rfl hG hat4 hx4 (by rw [res10]; exact e1) e2 e3
 exact ⟨u, k1, v, H5, μ5, F', k2, k3, k4, k5, k6, k7⟩
theorem full_nodup : ∀ (n : Nat) (l : List Nat), (∀ a, a < n → a ∈ l) → l.length ≤ n → l.Nodup ∧ ∀ a ∈ l, a < n
 | 0, l, _, h => by
  have : l = [] := List.length_eq_zero_iff.1 (by omega)
  subst this
  exact ⟨List.nodup_nil, fun _ h => by cases h⟩
 | n + 1, l, hm, h => by
  have hn := hm n (by omega)
  have hp := List.perm_cons_erase hn
  have hle := List.length_erase_of_mem hn
  obtain ⟨h1, h2⟩ := full_nodup n (l.erase n) (fun a ha => (List.mem_erase_of_ne (by omega)).2 (hm a (by omega))) (by omega)
  refine ⟨hp.nodup_iff.2 (List.nodup_cons.2 ⟨fun hh => by have := h2 n hh; omega, h1⟩), fun a ha => ?_⟩
  rcases List.mem_cons.1 (hp.mem_iff.1 ha) with e | e
  ·omega
  ·have := h2 a e; omega
theorem rising_eq : ∀ {l m : List Nat}, l.Pairwise (· < ·) → m.Pairwise (· < ·) → (∀ x, x ∈ l ↔ x ∈ m) → l = m
 | [], [], _, _, _ => rfl
 | [], y :: m, _, _, h => by have := (h y).2 (by simp); cases this
 | x :: l, [], _, _, h => by have := (h x).1 (by simp); cases this
 | x :: l, y :: m, h1, h2, h => by
  have a1 := List.pairwise_cons.1 h1
  have a2 := List.pairwise_cons.1 h2
  have e : x = y := by
   rcases List.mem_cons.1 ((h x).1 (by simp)) with e | e
   ·exact e
   ·rcases List.mem_cons.1 ((h y).2 (by simp)) with e' | e'
    ·exact e'.symm
    ·have := a2.1 x e; have := a1.1 y e'; omega
  subst e
  rw [rising_eq a1.2 a2.2 fun z => ?_]
  constructor
  ·intro hz
   rcases List.mem_cons.1 ((h z).1 (List.mem_cons_of_mem _ hz)) with e | e
   ·have := a1.1 z hz; omega
   ·exact e
  ·intro hz
   rcases List.mem_cons.1 ((h z).2 (List.mem_cons_of_mem _ hz)) with e | e
   ·have := a2.1 z hz; omega
   ·exact e
theorem srtN_mem {l : List Nat} {x : Nat} : x ∈ srtN l ↔ x ∈ l := by
 unfold srtN srt
 rw [List.mem_map]
 constructor
 ·rintro ⟨z, hz, rfl⟩
  obtain ⟨n, hn, rfl⟩ := List.mem_map.1 (List.mem_mergeSort.1 hz)
  simpa using hn
 ·intro h
  exact ⟨(x : Int), List.mem_mergeSort.2 (List.mem_map.2 ⟨x, h, rfl⟩), by simp⟩
theorem srtN_rising {l : List Nat} (h : l.Nodup) : (srtN l).Pairwise (· < ·) := by
 have hs : (srt (l.map fun (n : Nat) => (n : Int))).Pairwise (· ≤ ·) := by
  have := List.pairwise_mergeSort (le := fun x y : Int => decide (x ≤ y)) (fun a b c h1 h2 => by simp at *; omega) (fun a b => by simp; omega) (l.map fun (n : Nat) => (n : Int))
  exact this.imp fun h => by simpa using h
 have hn : (srt (l.map fun (n : Nat) => (n : Int))).Nodup := by
  have hp : (srt (l.map fun (n : Nat) => (n : Int))).Perm (l.map fun (n : Nat) => (n : Int)) := List.mergeSort_perm _ _
  refine hp.nodup_iff.2 ?_
  unfold List.Nodup at h ⊢
  rw [List.pairwise_map]
  exact h.imp fun hh e => hh (by omega)
 have hpos : ∀ z ∈ srt (l.map fun (n : Nat) => (n : Int)), 0 ≤ z := by
  intro z hz
  obtain ⟨n, _, rfl⟩ := List.mem_map.1 (List.mem_mergeSort.1 hz)
  omega
 unfold srtN
 rw [List.pairwise_map]
 refine List.Pairwise.imp_of_mem (R := fun a b => a ≤ b ∧ a ≠ b) (fun {a b} ha hb h => ?_) (hs.and hn)
 have := hpos a ha
 have := hpos b hb
 omega
theorem lens_flat (U : List (List Nat)) : U.flatten.length = lens U := by
 induction U with
 | nil => rfl
 | cons u U ih => simp [lens] at ih ⊢
theorem wants_at (c : List Nat) : ∀ (n j : Nat), j < n → nth c j = j → ((List.range j).filter fun i => decide (nth c i = i)).length < (wants c n).length ∧
  nth (wants c n) ((List.range j).filter fun i => decide (nth c i = i)).length = wl c j c.length := by
 intro n
 induction n with
 | zero => intro j h; omega
 | succ n ih =>
  intro j hj he
  rw [wants_step]
  by_cases hjn : j = n
  ·subst hjn
   rw [if_pos he]
   have hl : (wants c j).length = ((List.range j).filter fun i => decide (nth c i = i)).length := by unfold wants; rw [List.length_map]
   rw [← hl]
   refine ⟨by simp, ?_⟩
   simp [nth]
  ·obtain ⟨h1, h2⟩ := ih j (by omega) he
   split
   ·refine ⟨by rw [List.length_append]; omega, ?_⟩
    rw [← h2]
    generalize ((List.range j).filter fun i => decide (nth c i = i)).length = q at h1 h2 ⊢
    simp [nth, List.getElem?_append_left h1]
   ·exact ⟨h1, h2⟩
theorem Play.cls {G m c} (h : Play G m) (hm : m ≤ 1000) (hc : Told G.N G.E c) (hcl : c.length = G.N.length) : Cls G (wants c c.length) fun j => ((List.range j).filter fun i => decide (nth c i = i)).length := by
 obtain ⟨ρ, H, hI⟩ := h.ex
 have hnm := h.nm
 refine ⟨rfl, by show _ = (wants c c.length).length; unfold wants; rw [List.length_map, hcl], Nat.le_trans (wants_len _ _) (by omega), by omega, fun i hi => ?_⟩
 obtain ⟨k, hk⟩ := hI.rt i hi
 obtain ⟨r1, r2⟩ := hI.rl i hi
 have hcm := hI.cm _ r1 r2
 have hmem : i ∈ nth G.C (ρ i) := (hcm i).2 ⟨hi, rfl⟩
 have hlen : (nth G.C (ρ i)).length ≤ lens G.C := lens_nth
 have hcs := hI.cs
 have hflat : G.C.flatten.Nodup := (full_nodup G.N.length G.C.flatten (fun a ha => by
  obtain ⟨q1, q2⟩ := hI.rl a ha
  exact List.mem_flatten.2 ⟨nth G.C (ρ a), nth_mem (by rw [hI.lc]; exact q1), ((hI.cm _ q1 q2) a).2 ⟨ha, rfl⟩⟩) (by rw [lens_flat]; exact hcs)).1
 have hnd : (nth G.C (ρ i)).Nodup := (List.pairwise_flatten.1 hflat).1 _ (nth_mem (by rw [hI.lc]; exact r1))
 have hrise := srtN_rising hnd
 have hsm : ∀ x, x ∈ srtN (nth G.C (ρ i)) ↔ x < G.N.length ∧ ρ x = ρ i := fun x => srtN_mem.trans (hcm x)
 have hpos : 0 < (srtN (nth G.C (ρ i))).length := List.length_pos_of_mem ((hsm i).2 ⟨hi, rfl⟩)
 have hhead : nth (srtN (nth G.C (ρ i))) 0 ∈ srtN (nth G.C (ρ i)) := nth_mem hpos
 have hleast : ∀ x ∈ srtN (nth G.C (ρ i)), nth (srtN (nth G.C (ρ i))) 0 ≤ x := by
  generalize srtN (nth G.C (ρ i)) = s at *
  cases s with
  | nil => simp at hpos
  | cons y s =>
   intro x hx
   have e : nth (y :: s) 0 = y := rfl
   rw [e]
   rcases List.mem_cons.1 hx with e | e
   ·omega
   ·have := (List.pairwise_cons.1 hrise).1 x e; omega
 obtain ⟨hh1, hh2⟩ := (hsm _).1 hhead
 have hL : IsLeast G.N G.E i (nth (srtN (nth G.C (ρ i))) 0) := ⟨hh1, (hI.iff hi hh1).1 hh2.symm, fun b hb he => hleast b ((hsm b).2 ⟨hb, ((hI.iff hi hb).2 he).symm⟩)⟩
 have heq : nth (srtN (nth G.C (ρ i))) 0 = nth c i := hL.uniq (hc.least hi)
 have hstep : ((List.range (i + 1)).filter fun i => decide (nth c i = i)).length = if nth c i = i then ((List.range i).filter fun i => decide (nth c i = i)).length + 1 else ((List.range i).filter fun i => decide (nth c i = i)).length := by
  rw [List.range_succ, List.filter_append]
  by_cases e : nth c i = i
  ·rw [if_pos e]; simp [e]
  ·rw [if_neg e]; simp [e]
 refine ⟨ρ i, k, _, hk, by rw [hI.lc]; exact r1, rfl, List.ne_nil_of_mem hmem, by omega, ?_⟩
 by_cases e : nth c i = i
 ·left
  obtain ⟨w1, w2⟩ := wants_at c c.length i (by omega) e
  refine ⟨heq.trans e, w1, w2.trans ?_, by rw [hstep, if_pos e]⟩
  refine rising_eq (List.Pairwise.filter _ List.pairwise_lt_range) hrise fun x => ?_
  rw [hsm]
  unfold wl
  rw [List.mem_filter, List.mem_range, decide_eq_true_eq, hcl]
  constructor
  ·rintro ⟨h1, h2⟩
   exact ⟨h1, (hI.iff h1 hi).2 ((hc.iff h1 hi).1 (h2.trans e.symm))⟩
  ·rintro ⟨h1, h2⟩
   exact ⟨h1, ((hc.iff h1 hi).2 ((hI.iff h1 hi).1 h2)).trans e⟩
 ·right
  exact ⟨by rw [heq]; exact e, by rw [hstep, if_neg e]⟩
end Go.Proofs.YtjabgfnljbnmmaaDoor
