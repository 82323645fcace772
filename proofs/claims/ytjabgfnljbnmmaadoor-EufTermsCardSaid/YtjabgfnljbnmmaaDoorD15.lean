/- A part of the proof of a law of this seat: no condition. -/
import Derived.Test.YtjabgfnljbnmmaaDoorEufL17
import Derived.Test.YtjabgfnljbnmmaaDoorE2
import Derived.Test.YtjabgfnljbnmmaaDoorE16
import Derived.Test.YtjabgfnljbnmmaaDoorEufD
import Derived.Test.YtjabgfnljbnmmaaDoorEufZ
set_option linter.unusedSimpArgs false
set_option linter.unusedVariables false
set_option maxRecDepth 20000
set_option maxHeartbeats 40000000
namespace Go.Proofs.YtjabgfnljbnmmaaDoor
open Go.Ax
attribute [-simp] List.map_set
theorem at_bad {B : Heap} {G : GS} {a : Int} (h : ¬ isN G a) : Ok B 17 [gR, iV a] (gObs G) (.tup [.agg [.str [], .slice 1 []], .bool false]) (gObs G) [] := by
  refine k17z ?_
  have hp : True := trivial
  by_cases h0 : a < 0
  · skip
    repeat' first | refine w0 ?_ | refine w1 ?_ | ((first | refine w2 fun K hK => ?_ | refine w3 fun K hK => ?_ | refine w4 fun K hK => ?_ | refine w5 fun K hK => ?_); simp (maxSteps := 4000000) +contextual [h0, hp]; (try (refine finD rfl ?_; simp)); refine hK _ ?_; clear hK K) | ((first | refine w6 rfl (fun h => ?_) (fun h => ?_) | refine w7 rfl (fun h => ?_) (fun h => ?_)) <;> (replace hp := And.intro h hp; clear h; try simp only [z0, z1, z2, z3, z4, z5, z6, z7, z8, z9, z10, z11, z12] at hp)) | refine w8 ?_ | refine w9 ?_ | refine w10 ?_ | refine w11 ?_ | refine w12 ?_ | refine w13 ?_ | refine w14 ?_ | refine w15 ?_ | refine w16 ?_ | refine w17 ?_ | refine w18 ?_ | refine w19 ?_ | refine w20 ?_ | refine w21 (by decide) ?_ | refine hleave .ret _ (by simp) ?_ | refine hleave (.exit _) _ (by simp) ?_ | refine w22 ?_
    all_goals simp [EndA]
  · have h1 : (G.N.length : Int) ≤ a := by
      have : ¬ (0 ≤ a ∧ a < (G.N.length : Int)) := h
      omega
    repeat' first | refine w0 ?_ | refine w1 ?_ | ((first | refine w2 fun K hK => ?_ | refine w3 fun K hK => ?_ | refine w4 fun K hK => ?_ | refine w5 fun K hK => ?_); simp (maxSteps := 4000000) +contextual [h0, h1, hp]; (try (refine finD rfl ?_; simp)); refine hK _ ?_; clear hK K) | ((first | refine w6 rfl (fun h => ?_) (fun h => ?_) | refine w7 rfl (fun h => ?_) (fun h => ?_)) <;> (replace hp := And.intro h hp; clear h; try simp only [z0, z1, z2, z3, z4, z5, z6, z7, z8, z9, z10, z11, z12] at hp)) | refine w8 ?_ | refine w9 ?_ | refine w10 ?_ | refine w11 ?_ | refine w12 ?_ | refine w13 ?_ | refine w14 ?_ | refine w15 ?_ | refine w16 ?_ | refine w17 ?_ | refine w18 ?_ | refine w19 ?_ | refine w20 ?_ | refine w21 (by decide) ?_ | refine hleave .ret _ (by simp) ?_ | refine hleave (.exit _) _ (by simp) ?_ | refine w22 ?_
    all_goals simp [EndA]
theorem at_nil {B : Heap} {G : GS} {a : Nat} (ha : a < G.N.length) (h0 : (nth G.N a).a = []) : Ok B 17 [gR, nV a] (gObs G) (.tup [.agg [.str (nth G.N a).f, .slice 1 []], .bool true]) (gObs G) [] := by
  refine k17z ?_
  have hp : True := trivial
  have h1 : ¬ (a : Int) < 0 := by omega
  have h2 : ¬ (G.N.length : Int) ≤ (a : Int) := by omega
  have h3 : ¬ G.N.length ≤ a := by omega
  have hc := clone0 (B := B)
  repeat' first | refine w0 ?_ | refine w1 ?_ | ((first | refine w2 fun K hK => ?_ | refine w3 fun K hK => ?_ | refine w4 fun K hK => ?_ | refine w5 fun K hK => ?_); simp (maxSteps := 4000000) +contextual [ha, h1, h2, h3, h0, hp]; (try (refine finD rfl ?_; simp)); refine hK _ ?_; clear hK K) | ((first | refine w6 rfl (fun h => ?_) (fun h => ?_) | refine w7 rfl (fun h => ?_) (fun h => ?_)) <;> (replace hp := And.intro h hp; clear h; try simp only [z0, z1, z2, z3, z4, z5, z6, z7, z8, z9, z10, z11, z12] at hp)) | refine w8 ?_ | refine w9 ?_ | refine w10 ?_ | refine w11 ?_ | refine w12 ?_ | refine w13 ?_ | refine w14 ?_ | refine w15 ?_ | refine w16 ?_ | refine w17 ?_ | refine w18 ?_ | refine w19 ?_ | refine w20 ?_ | refine w21 (by decide) ?_ | refine hleave .ret _ (by simp) ?_ | refine hleave (.exit _) _ (by simp) ?_ | refine w22 ?_
  refine s_regD fun K hK => ?_
  simp (maxSteps := 4000000) +contextual [h0, hp]
  refine callK (hc) (by simp) ?_
  simp (maxSteps := 4000000) +contextual [h0, hp]
  refine finD rfl ?_
  simp
  refine hK _ ?_
  clear hK K
  repeat' first | refine w0 ?_ | refine w1 ?_ | ((first | refine w2 fun K hK => ?_ | refine w3 fun K hK => ?_ | refine w4 fun K hK => ?_ | refine w5 fun K hK => ?_); simp (maxSteps := 4000000) +contextual [hp]; (try (refine finD rfl ?_; simp)); refine hK _ ?_; clear hK K) | ((first | refine w6 rfl (fun h => ?_) (fun h => ?_) | refine w7 rfl (fun h => ?_) (fun h => ?_)) <;> (replace hp := And.intro h hp; clear h; try simp only [z0, z1, z2, z3, z4, z5, z6, z7, z8, z9, z10, z11, z12] at hp)) | refine w8 ?_ | refine w9 ?_ | refine w10 ?_ | refine w11 ?_ | refine w12 ?_ | refine w13 ?_ | refine w14 ?_ | refine w15 ?_ | refine w16 ?_ | refine w17 ?_ | refine w18 ?_ | refine w19 ?_ | refine w20 ?_ | refine w21 (by decide) ?_ | refine hleave .ret _ (by simp) ?_ | refine hleave (.exit _) _ (by simp) ?_ | refine w22 ?_
  all_goals simp [EndA]
theorem at_ok {B : Heap} {G : GS} {a : Nat} (ha : a < G.N.length) (h0 : (nth G.N a).a ≠ []) (hl : (nth G.N a).a.length ≤ 1000000) : Ok B 17 [gR, nV a] (gObs G) (.tup [.agg [.str (nth G.N a).f, .sl 1 (.sub 0 0) (nth G.N a).a.length], .bool true]) (gObs G) [.cells true ((nth G.N a).a.map nV)] := by
  refine k17 ?_
  have hp : True := trivial
  have h1 : ¬ (a : Int) < 0 := by omega
  have h2 : ¬ (G.N.length : Int) ≤ (a : Int) := by omega
  have h3 : ¬ G.N.length ≤ a := by omega
  have hc := cloneM (B := B) h0 hl
  repeat' first | refine w0 ?_ | refine w1 ?_ | ((first | refine w2 fun K hK => ?_ | refine w3 fun K hK => ?_ | refine w4 fun K hK => ?_ | refine w5 fun K hK => ?_); simp (maxSteps := 4000000) +contextual [ha, h1, h2, h3, hp]; (try (refine finD rfl ?_; simp)); refine hK _ ?_; clear hK K) | ((first | refine w6 rfl (fun h => ?_) (fun h => ?_) | refine w7 rfl (fun h => ?_) (fun h => ?_)) <;> (replace hp := And.intro h hp; clear h; try simp only [z0, z1, z2, z3, z4, z5, z6, z7, z8, z9, z10, z11, z12] at hp)) | refine w8 ?_ | refine w9 ?_ | refine w10 ?_ | refine w11 ?_ | refine w12 ?_ | refine w13 ?_ | refine w14 ?_ | refine w15 ?_ | refine w16 ?_ | refine w17 ?_ | refine w18 ?_ | refine w19 ?_ | refine w20 ?_ | refine w21 (by decide) ?_ | refine hleave .ret _ (by simp) ?_ | refine hleave (.exit _) _ (by simp) ?_ | refine w22 ?_
  refine s_regD fun K hK => ?_
  simp (maxSteps := 4000000) +contextual [hp]
  refine callK (hc) (by simp) ?_
  simp (maxSteps := 4000000) +contextual [hp]
  refine finD rfl ?_
  simp
  refine hK _ ?_
  clear hK K
  repeat' first | refine w0 ?_ | refine w1 ?_ | ((first | refine w2 fun K hK => ?_ | refine w3 fun K hK => ?_ | refine w4 fun K hK => ?_ | refine w5 fun K hK => ?_); simp (maxSteps := 4000000) +contextual [hp]; (try (refine finD rfl ?_; simp)); refine hK _ ?_; clear hK K) | ((first | refine w6 rfl (fun h => ?_) (fun h => ?_) | refine w7 rfl (fun h => ?_) (fun h => ?_)) <;> (replace hp := And.intro h hp; clear h; try simp only [z0, z1, z2, z3, z4, z5, z6, z7, z8, z9, z10, z11, z12] at hp)) | refine w8 ?_ | refine w9 ?_ | refine w10 ?_ | refine w11 ?_ | refine w12 ?_ | refine w13 ?_ | refine w14 ?_ | refine w15 ?_ | refine w16 ?_ | refine w17 ?_ | refine w18 ?_ | refine w19 ?_ | refine w20 ?_ | refine w21 (by decide) ?_ | refine hleave .ret _ (by simp) ?_ | refine hleave (.exit _) _ (by simp) ?_ | refine w22 ?_
  all_goals simp [EndA]
theorem alike_sl {B : Heap} {xs ys : List Nat} (hl : xs.length ≤ 1000000) (hl2 : ys.length ≤ 1000000) : Ok B 19 [.sl 1 (.par 0) xs.length, .slice 1 (ys.map nV)] [.cells true (xs.map nV)] (.bool (decide (xs = ys))) [.cells true (xs.map nV)] [] := by
  refine k19 ?_
  have hp : True := trivial
  by_cases hlen : xs.length = ys.length
  · have hlen2 : (xs.length : Int) = (ys.length : Int) := by omega
    repeat' first | refine w0 ?_ | refine w1 ?_ | ((first | refine w2 fun K hK => ?_ | refine w3 fun K hK => ?_ | refine w4 fun K hK => ?_ | refine w5 fun K hK => ?_); simp (maxSteps := 4000000) +contextual [hlen, hlen2, hp]; (try (refine finD rfl ?_; simp)); refine hK _ ?_; clear hK K) | ((first | refine w6 rfl (fun h => ?_) (fun h => ?_) | refine w7 rfl (fun h => ?_) (fun h => ?_)) <;> (replace hp := And.intro h hp; clear h; try simp only [z0, z1, z2, z3, z4, z5, z6, z7, z8, z9, z10, z11, z12] at hp)) | refine w8 ?_ | refine w9 ?_ | refine w10 ?_ | refine w11 ?_ | refine w12 ?_ | refine w13 ?_ | refine w14 ?_ | refine w15 ?_ | refine w16 ?_ | refine w17 ?_ | refine w18 ?_ | refine w19 ?_ | refine w20 ?_ | refine w21 (by decide) ?_ | refine hleave .ret _ (by simp) ?_ | refine hleave (.exit _) _ (by simp) ?_ | refine w22 ?_
    refine c_loopI (fun (j : Nat) => (⟨[(0, .sl 1 (.par 0) ys.length), (1, .slice 1 (ys.map nV)), (5, nV j)], [(.par 0, .cells true (xs.map nV))]⟩ : St)) (fun j => j ≤ xs.length ∧ xs.take j = ys.take j) (fun j => xs.length - j) 0 (by simp [hlen]) (by simp) (fun j K' hj hnext hleave => ?_)
    obtain ⟨hj, hd⟩ := hj
    by_cases hjl : j < xs.length
    · have hjy : j < ys.length := by omega
      have hw : IntKind.wrap .i64 ((j : Int) + 1) = ((j + 1 : Nat) : Int) := wrapN (by omega) (by omega)
      by_cases hx : nth xs j = nth ys j
      · have hx2 : ((nth xs j : Nat) : Int) = ((nth ys j : Nat) : Int) := by omega
        repeat' first | refine w0 ?_ | refine w1 ?_ | ((first | refine w2 fun K hK => ?_ | refine w3 fun K hK => ?_ | refine w4 fun K hK => ?_ | refine w5 fun K hK => ?_); simp (maxSteps := 4000000) +contextual [hjl, hjy, hx, hx2, hp]; (try (refine finD rfl ?_; simp)); refine hK _ ?_; clear hK K) | ((first | refine w6 rfl (fun h => ?_) (fun h => ?_) | refine w7 rfl (fun h => ?_) (fun h => ?_)) <;> (replace hp := And.intro h hp; clear h; try simp only [z0, z1, z2, z3, z4, z5, z6, z7, z8, z9, z10, z11, z12] at hp)) | refine w8 ?_ | refine w9 ?_ | refine w10 ?_ | refine w11 ?_ | refine w12 ?_ | refine w13 ?_ | refine w14 ?_ | refine w15 ?_ | refine w16 ?_ | refine w17 ?_ | refine w18 ?_ | refine w19 ?_ | refine w20 ?_ | refine w21 (by decide) ?_ | refine hleave .ret _ (by simp) ?_ | refine hleave (.exit _) _ (by simp) ?_ | refine w22 ?_
        all_goals exact hnext _ (j + 1) (by simp [hw]) ⟨hjl, by rw [take_nth hjl, take_nth hjy, hd, hx]⟩ (by omega)
      · have hx2 : ¬ ((nth xs j : Nat) : Int) = ((nth ys j : Nat) : Int) := by omega
        have hne : xs ≠ ys := fun e => hx (by rw [e])
        repeat' first | refine w0 ?_ | refine w1 ?_ | ((first | refine w2 fun K hK => ?_ | refine w3 fun K hK => ?_ | refine w4 fun K hK => ?_ | refine w5 fun K hK => ?_); simp (maxSteps := 4000000) +contextual [hjl, hjy, hx, hx2, hp]; (try (refine finD rfl ?_; simp)); refine hK _ ?_; clear hK K) | ((first | refine w6 rfl (fun h => ?_) (fun h => ?_) | refine w7 rfl (fun h => ?_) (fun h => ?_)) <;> (replace hp := And.intro h hp; clear h; try simp only [z0, z1, z2, z3, z4, z5, z6, z7, z8, z9, z10, z11, z12] at hp)) | refine w8 ?_ | refine w9 ?_ | refine w10 ?_ | refine w11 ?_ | refine w12 ?_ | refine w13 ?_ | refine w14 ?_ | refine w15 ?_ | refine w16 ?_ | refine w17 ?_ | refine w18 ?_ | refine w19 ?_ | refine w20 ?_ | refine w21 (by decide) ?_ | refine hleave .ret _ (by simp) ?_ | refine hleave (.exit _) _ (by simp) ?_ | refine w22 ?_
        all_goals simp [EndA, hne]
    · have hje : j = xs.length := by omega
      have he : xs = ys := by
        rw [hje, List.take_length] at hd
        rw [hd, hlen, List.take_length]
      subst he
      subst hje
      repeat' first | refine w0 ?_ | refine w1 ?_ | ((first | refine w2 fun K hK => ?_ | refine w3 fun K hK => ?_ | refine w4 fun K hK => ?_ | refine w5 fun K hK => ?_); simp (maxSteps := 4000000) +contextual [hp]; (try (refine finD rfl ?_; simp)); refine hK _ ?_; clear hK K) | ((first | refine w6 rfl (fun h => ?_) (fun h => ?_) | refine w7 rfl (fun h => ?_) (fun h => ?_)) <;> (replace hp := And.intro h hp; clear h; try simp only [z0, z1, z2, z3, z4, z5, z6, z7, z8, z9, z10, z11, z12] at hp)) | refine w8 ?_ | refine w9 ?_ | refine w10 ?_ | refine w11 ?_ | refine w12 ?_ | refine w13 ?_ | refine w14 ?_ | refine w15 ?_ | refine w16 ?_ | refine w17 ?_ | refine w18 ?_ | refine w19 ?_ | refine w20 ?_ | refine w21 (by decide) ?_ | refine hleave .ret _ (by simp) ?_ | refine hleave (.exit _) _ (by simp) ?_ | refine w22 ?_
      all_goals simp [EndA]
  · have hlen2 : ¬ (xs.length : Int) = (ys.length : Int) := by omega
    have hne : xs ≠ ys := fun e => hlen (by rw [e])
    repeat' first | refine w0 ?_ | refine w1 ?_ | ((first | refine w2 fun K hK => ?_ | refine w3 fun K hK => ?_ | refine w4 fun K hK => ?_ | refine w5 fun K hK => ?_); simp (maxSteps := 4000000) +contextual [hlen, hlen2, hp]; (try (refine finD rfl ?_; simp)); refine hK _ ?_; clear hK K) | ((first | refine w6 rfl (fun h => ?_) (fun h => ?_) | refine w7 rfl (fun h => ?_) (fun h => ?_)) <;> (replace hp := And.intro h hp; clear h; try simp only [z0, z1, z2, z3, z4, z5, z6, z7, z8, z9, z10, z11, z12] at hp)) | refine w8 ?_ | refine w9 ?_ | refine w10 ?_ | refine w11 ?_ | refine w12 ?_ | refine w13 ?_ | refine w14 ?_ | refine w15 ?_ | refine w16 ?_ | refine w17 ?_ | refine w18 ?_ | refine w19 ?_ | refine w20 ?_ | refine w21 (by decide) ?_ | refine hleave .ret _ (by simp) ?_ | refine hleave (.exit _) _ (by simp) ?_ | refine w22 ?_
    all_goals simp [EndA, hne]
end Go.Proofs.YtjabgfnljbnmmaaDoor
