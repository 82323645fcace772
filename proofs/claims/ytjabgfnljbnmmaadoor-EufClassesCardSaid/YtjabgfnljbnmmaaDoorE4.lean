/- A part of the proof of a law of this seat: no condition. -/
import Derived.Test.YtjabgfnljbnmmaaDoorE2
set_option linter.unusedSimpArgs false
set_option linter.unusedVariables false
set_option maxRecDepth 20000
set_option maxHeartbeats 8000000
namespace Go.Proofs.YtjabgfnljbnmmaaDoor
open Go.Ax
attribute [-simp] List.map_set
theorem ed_set3 {D : List Ed} {a : Nat} (h : a < D.length) (e : Ed) : (((D.flatMap edC).set (a * 3) (nV e.to)).set (a * 3 + 1) (.int .i64 e.why)).set (a * 3 + 2) (.bool e.some) = (D.set a e).flatMap edC := by
 apply List.ext_getElem?
 intro i
 by_cases hi : i < D.length * 3
 ·obtain ⟨n, k, hk, rfl⟩ : ∃ n k, k < 3 ∧ i = n * 3 + k := ⟨i / 3, i % 3, by omega, by omega⟩
  have hn : n < D.length := by omega
  have hl := flat3_len D
  rw [flat3_get (by simpa using hn) k hk]
  simp only [List.getElem?_set, List.length_set, hl, flat3_get hn k hk]
  by_cases e1 : a = n
  ·subst e1
   have : nth (D.set a e) a = e := by simp [nth, h]
   rw [this]
   match k, hk with
   | 0, _ => simp; omega
   | 1, _ => simp; omega
   | 2, _ => simp; omega
  ·have : nth (D.set a e) n = nth D n := by simp [nth, e1, List.getD, List.getElem?_set]
   rw [this]
   rw [if_neg (by omega), if_neg (by omega), if_neg (by omega)]
 ·have hl := flat3_len D
  have hl2 := flat3_len (D.set a e)
  rw [List.length_set] at hl2
  rw [List.getElem?_eq_none (by simp only [List.length_set]; omega), List.getElem?_eq_none (by omega)]
@[simp] theorem ed_set {D : List Ed} {a : Nat} (h : a < D.length) (to : Nat) (why : Int) (s : Bool) : (((D.flatMap edC).set (a * 3) (.int .i64 to)).set (a * 3 + 1) (.int .i64 why)).set (a * 3 + 2) (.bool s) = (D.set a ⟨to, why, s⟩).flatMap edC := ed_set3 h ⟨to, why, s⟩
/-- The edges on the way from a node turned. -/
inductive Turn : List Ed → Ed → Nat → List Ed → Nat → Prop
 | stop {D last a} (h : a < D.length) (hs : (nth D a).some = false) : Turn D last a (D.set a last) 0
 | step {D last a D' k} (h : a < D.length) (hs : (nth D a).some = true) (hr : Turn (D.set a last) ⟨a, (nth D a).why, true⟩ (nth D a).to D' k) : Turn D last a D' (k + 1)
theorem Turn.len {D last a D' k} (h : Turn D last a D' k) : D'.length = D.length := by
 induction h with
 | stop => simp
 | step _ _ _ ih => simpa using ih
abbrev ed0 : Ed := ⟨0, 0, false⟩
theorem turn_ok {B : Heap} {G : GS} {a k : Nat} {D' : List Ed} (h : Turn G.D ed0 a D' k) : Ok B 48 [gR, nV a] (gObs G) (.tup []) (gObs { G with D := D' }) [] := by
 refine k48 ?_
 have hp : True := trivial
 repeat' first | refine w0 ?_ | refine w1 ?_ | ((first | refine w2 ?_ | refine w3 ?_ | refine w4 ?_ | refine w5 ?_); intro K hK; simp (maxSteps := 4000000) +contextual [hp]; (try (refine finD rfl ?_; simp)); refine hK _ ?_; clear hK K) | ((first | refine w6 rfl ?_ ?_ | refine w7 rfl ?_ ?_) <;> (intro h; replace hp := And.intro h hp; clear h; try simp only [z0, z1, z2, z3, z4, z5, z6, z7, z8, z9, z10, z11, z12] at hp)) | refine w8 ?_ | refine w9 ?_ | refine w10 ?_ | refine w11 ?_ | refine w12 ?_ | refine w13 ?_ | refine w14 ?_ | refine w15 ?_ | refine w16 ?_ | refine w17 ?_ | refine w18 ?_ | refine w19 ?_ | refine w20 ?_ | refine w21 (by decide) ?_ | refine hleave .ret _ (by simp) ?_ | refine hleave (.exit _) _ (by simp) ?_ | refine w22 ?_
 have hlen := h.len
 refine c_loopI (fun (p : List Ed × Ed × Nat × Nat) => (⟨[(0, gR), (1, nV p.2.2.1), (4, .ref (.loc 4) 0)], gIn { G with D := p.1 } ++ [(.loc 4, .cells false (edC p.2.1))]⟩ : St))
  (fun p => Turn p.1 p.2.1 p.2.2.1 D' p.2.2.2) (fun p => p.2.2.2) (G.D, ed0, a, k) (by simp) h (fun p K' hn hnext hleave => ?_)
 obtain ⟨D, last, x, j⟩ := p
 obtain ⟨lt, lw, ls⟩ := last
 simp only at hn hnext ⊢
 have hDl := hn.len
 cases hn with
 | stop hx hs =>
  have hx3 : x * 3 + 3 ≤ D.length * 3 := by omega
  repeat' first | refine w0 ?_ | refine w1 ?_ | ((first | refine w2 ?_ | refine w3 ?_ | refine w4 ?_ | refine w5 ?_); intro K hK; simp (maxSteps := 4000000) +contextual [hx, hs, hx3, hp]; (try (refine finD rfl ?_; simp)); refine hK _ ?_; clear hK K) | ((first | refine w6 rfl ?_ ?_ | refine w7 rfl ?_ ?_) <;> (intro h; replace hp := And.intro h hp; clear h; try simp only [z0, z1, z2, z3, z4, z5, z6, z7, z8, z9, z10, z11, z12] at hp)) | refine w8 ?_ | refine w9 ?_ | refine w10 ?_ | refine w11 ?_ | refine w12 ?_ | refine w13 ?_ | refine w14 ?_ | refine w15 ?_ | refine w16 ?_ | refine w17 ?_ | refine w18 ?_ | refine w19 ?_ | refine w20 ?_ | refine w21 (by decide) ?_ | refine hleave .ret _ (by simp) ?_ | refine hleave (.exit _) _ (by simp) ?_ | refine w22 ?_
  simp [EndA]
 | step hx hs hr =>
  have hx3 : x * 3 + 3 ≤ D.length * 3 := by omega
  repeat' first | refine w0 ?_ | refine w1 ?_ | ((first | refine w2 ?_ | refine w3 ?_ | refine w4 ?_ | refine w5 ?_); intro K hK; simp (maxSteps := 4000000) +contextual [hx, hs, hx3, hp]; (try (refine finD rfl ?_; simp)); refine hK _ ?_; clear hK K) | ((first | refine w6 rfl ?_ ?_ | refine w7 rfl ?_ ?_) <;> (intro h; replace hp := And.intro h hp; clear h; try simp only [z0, z1, z2, z3, z4, z5, z6, z7, z8, z9, z10, z11, z12] at hp)) | refine w8 ?_ | refine w9 ?_ | refine w10 ?_ | refine w11 ?_ | refine w12 ?_ | refine w13 ?_ | refine w14 ?_ | refine w15 ?_ | refine w16 ?_ | refine w17 ?_ | refine w18 ?_ | refine w19 ?_ | refine w20 ?_ | refine w21 (by decide) ?_ | refine hleave .ret _ (by simp) ?_ | refine hleave (.exit _) _ (by simp) ?_ | refine w22 ?_
  exact hnext _ (D.set x ⟨lt, lw, ls⟩, ⟨x, (nth D x).why, true⟩, (nth D x).to, _) (by simp) hr (by simp)
end Go.Proofs.YtjabgfnljbnmmaaDoor
