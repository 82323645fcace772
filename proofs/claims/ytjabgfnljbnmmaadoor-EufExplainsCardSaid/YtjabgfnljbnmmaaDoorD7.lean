/- A part of the proof of a law of this seat: no condition. -/
import Derived.Test.YtjabgfnljbnmmaaDoorEufL16
import Derived.Test.YtjabgfnljbnmmaaDoorE18
import Derived.Test.YtjabgfnljbnmmaaDoorEufD
set_option linter.unusedSimpArgs false
set_option linter.unusedVariables false
set_option maxRecDepth 20000
set_option maxHeartbeats 40000000
namespace Go.Proofs.YtjabgfnljbnmmaaDoor
open Go.Ax
attribute [-simp] List.map_set
/-- A result told more loosely. -/
theorem reval {P : Program} {B : Heap} {mv : List Nat} {f : FuncId} {args : List V} {objs : List Ob} {r r' : V} {objs' news : List Ob} (h : CallM P B mv f args objs r objs' news) (hr : ∀ H μ v, RepS H μ r v → RepS H μ r' v) (hno : r'.isOwn = false) :
    CallM P B mv f args objs r' objs' news where
  enter := h.enter
  len := h.len
  calls := fun H F w μ vs hB hl hrel => (h.calls H F w μ vs hB hl hrel).mono fun e w' ⟨v, H', μ', F', he, hF, hB', hm, hR, hx⟩ => by
    refine ⟨v, H', μ', F', he, hF, hB', hm, ?_, hx⟩
    have h1 := hR.env 0
    rw [conSt_tm] at h1
    simp only [List.getElem?_cons_zero, Option.getD_some, upd, if_true] at h1
    refine ((hR.put (t := 0) (x := r') (v := v) (hr _ _ _ h1) (fun sz xs b off n c e => by rw [e] at hno; cases hno)).congr (fun t => ?_) (fun o => ?_)).tmCongr (fun t => ?_)
    · rw [conSt_tm, St.tm_put]
      by_cases e : t = 0
      · subst e; simp
      · rw [conSt_tm]; cases t with
        | zero => exact absurd rfl e
        | succ t => simp
    · rw [conSt_ob]; show _ = (conSt [r] objs' news).ob o; rw [conSt_ob]
    · unfold upd; split <;> rfl
theorem nils_slice {H : Heap} {μ : Oid → Option Nat} {x : V} {v : Value} (h : RepS H μ (.agg [x, .nils]) v) : RepS H μ (.agg [x, .slice 2 []]) v := by
  cases h with
  | two _ _ h => cases h with
    | one _ _ h => cases h with
      | data _ _ h => cases h with
        | agg _ vs h => cases h with
          | cons _ _ _ _ h1 h2 hs => cases hs with
            | cons _ _ _ _ h3 h4 _ => cases h4
    | agg _ vs h => cases h with
      | cons _ v1 _ vs1 h1 hv h2 hs => cases hs with
        | cons _ v2 _ vs2 h3 hv2 h4 hs2 =>
          have : v2 = .slice none 0 0 := by cases h4 with
            | nils => rfl
            | data _ _ h => cases h
          subst this
          exact .two _ _ (.agg _ _ (.cons _ _ _ _ h1 hv h2 (.cons _ _ _ _ rfl hv2 (.data _ _ (.slice0 _)) hs2)))
/-- A graph of a reference whose equations may be none. -/
def onlyV (N : List Nd) (F : List (Nat × Nat)) : V := .agg [.slice 2 (N.map ndV), if F = [] then .nils else .slice 2 (F.map prV)]
def onC (F : List (Nat × Nat)) : V := if F = [] then .nils else .own 2 (F.map prV)
theorem onC_0 : onC [] = .nils := rfl
theorem onC_1 {F : List (Nat × Nat)} (h : F ≠ []) : onC F = .own 2 (F.map prV) := if_neg h
theorem only_ok {B : Heap} {N : List Nd} {E : List (Nat × Nat)} {l : List Nat} (hl : ∀ i ∈ l, i < E.length) (hb : l.length ≤ 1000000) : Ok B 16 [wV N E, .slice 1 (l.map nV)] [] (onlyV N (l.map (nth E))) [] [] := by
  refine k16 ?_
  have hp : True := trivial
  repeat' first | refine w0 ?_ | refine w1 ?_ | ((first | refine w2 fun K hK => ?_ | refine w3 fun K hK => ?_ | refine w4 fun K hK => ?_ | refine w5 fun K hK => ?_); simp (maxSteps := 4000000) +contextual [hp]; (try (refine finD rfl ?_; simp)); refine hK _ ?_; clear hK K) | ((first | refine w6 rfl (fun h => ?_) (fun h => ?_) | refine w7 rfl (fun h => ?_) (fun h => ?_)) <;> (replace hp := And.intro h hp; clear h; try simp only [z0, z1, z2, z3, z4, z5, z6, z7, z8, z9, z10, z11, z12] at hp)) | refine w8 ?_ | refine w9 ?_ | refine w10 ?_ | refine w11 ?_ | refine w12 ?_ | refine w13 ?_ | refine w14 ?_ | refine w15 ?_ | refine w16 ?_ | refine w17 ?_ | refine w18 ?_ | refine w19 ?_ | refine w20 ?_ | refine w21 (by decide) ?_ | refine hleave .ret _ (by simp) ?_ | refine hleave (.exit _) _ (by simp) ?_ | refine w22 ?_
  refine c_loopI (fun (j : Nat) => (⟨[(1, .slice 1 (l.map nV)), (2, .ref (.loc 2) 0), (4, .ref (.loc 4) 0), (5, .ref (.loc 5) 0), (6, nV j)], [(.loc 2, .cells false [.slice 2 (N.map ndV), .slice 2 (E.map prV)]), (.loc 4, .cells false [.own 2 [], .own 2 []]), (.loc 5, .cells false [.slice 2 (N.map ndV), onC ((l.take j).map (nth E))])]⟩ : St))
    (fun j => j ≤ l.length) (fun j => l.length - j) 0 (by simp [onC]) (Nat.zero_le _) (fun j K' hj hnext hleave => ?_)
  by_cases hjl : j < l.length
  · have hw : IntKind.wrap .i64 ((j : Int) + 1) = ((j + 1 : Nat) : Int) := wrapN (by omega) (by omega)
    have hi := hl _ (nth_mem hjl)
    have hi1 : (0 : Int) ≤ ((nth l j : Nat) : Int) := by omega
    have hi2 : ((nth l j : Nat) : Int) < (E.length : Int) := by omega
    have hne : (l.take (j + 1)).map (nth E) ≠ [] := by rw [take_nth hjl]; simp
    have hc1 := onC_1 hne
    rw [take_nth hjl, List.map_append, List.map_append] at hc1
    simp only [List.map_cons, List.map_nil] at hc1
    have hlen : ((l.take j).map (nth E)).length = j := by rw [List.length_map, List.length_take]; omega
    by_cases h0 : j = 0
    · subst h0
      rw [List.take_zero, List.map_nil, onC_0]
      simp only [List.take_zero, List.map_nil, List.nil_append] at hc1
      have hw1 : IntKind.wrap .i64 1 = 1 := by decide
      repeat' first | refine w0 ?_ | refine w1 ?_ | ((first | refine w2 fun K hK => ?_ | refine w3 fun K hK => ?_ | refine w4 fun K hK => ?_ | refine w5 fun K hK => ?_); simp (maxSteps := 4000000) +contextual [hjl, hi, hi1, hi2, hp]; (try (refine finD rfl ?_; simp)); refine hK _ ?_; clear hK K) | ((first | refine w6 rfl (fun h => ?_) (fun h => ?_) | refine w7 rfl (fun h => ?_) (fun h => ?_)) <;> (replace hp := And.intro h hp; clear h; try simp only [z0, z1, z2, z3, z4, z5, z6, z7, z8, z9, z10, z11, z12] at hp)) | refine w8 ?_ | refine w9 ?_ | refine w10 ?_ | refine w11 ?_ | refine w12 ?_ | refine w13 ?_ | refine w14 ?_ | refine w15 ?_ | refine w16 ?_ | refine w17 ?_ | refine w18 ?_ | refine w19 ?_ | refine w20 ?_ | refine w21 (by decide) ?_ | refine hleave .ret _ (by simp) ?_ | refine hleave (.exit _) _ (by simp) ?_ | refine w22 ?_
      have ht1 : l.take 1 = [nth l 0] := by have := take_nth (l := l) (j := 0) hjl; simpa using this
      all_goals refine hnext _ 1 (by simp [hw1]; rw [← List.map_take, ht1]; rfl) (by omega) (by omega)
    · have hnj : (l.take j).map (nth E) ≠ [] := fun e => h0 (by rw [← hlen, e]; rfl)
      rw [onC_1 hnj]
      generalize hFg : (l.take j).map (nth E) = F at *
      have hb2 : (F.length + 1) * 16 ≤ 140737488355328 := by omega
      repeat' first | refine w0 ?_ | refine w1 ?_ | ((first | refine w2 fun K hK => ?_ | refine w3 fun K hK => ?_ | refine w4 fun K hK => ?_ | refine w5 fun K hK => ?_); simp (maxSteps := 4000000) +contextual [hjl, hi, hi1, hi2, hb2, hp]; (try (refine finD rfl ?_; simp)); refine hK _ ?_; clear hK K) | ((first | refine w6 rfl (fun h => ?_) (fun h => ?_) | refine w7 rfl (fun h => ?_) (fun h => ?_)) <;> (replace hp := And.intro h hp; clear h; try simp only [z0, z1, z2, z3, z4, z5, z6, z7, z8, z9, z10, z11, z12] at hp)) | refine w8 ?_ | refine w9 ?_ | refine w10 ?_ | refine w11 ?_ | refine w12 ?_ | refine w13 ?_ | refine w14 ?_ | refine w15 ?_ | refine w16 ?_ | refine w17 ?_ | refine w18 ?_ | refine w19 ?_ | refine w20 ?_ | refine w21 (by decide) ?_ | refine hleave .ret _ (by simp) ?_ | refine hleave (.exit _) _ (by simp) ?_ | refine w22 ?_
      all_goals refine hnext _ (j + 1) (by simp [hw, take_nth hjl, List.map_append, hFg, hc1]) hjl (by omega)
  · have hje : j = l.length := by omega
    subst hje
    rw [List.take_length]
    by_cases h0 : l = []
    · subst h0
      simp only [List.map_nil, onC_0]
      repeat' first | refine w0 ?_ | refine w1 ?_ | ((first | refine w2 fun K hK => ?_ | refine w3 fun K hK => ?_ | refine w4 fun K hK => ?_ | refine w5 fun K hK => ?_); simp (maxSteps := 4000000) +contextual [hp]; (try (refine finD rfl ?_; simp)); refine hK _ ?_; clear hK K) | ((first | refine w6 rfl (fun h => ?_) (fun h => ?_) | refine w7 rfl (fun h => ?_) (fun h => ?_)) <;> (replace hp := And.intro h hp; clear h; try simp only [z0, z1, z2, z3, z4, z5, z6, z7, z8, z9, z10, z11, z12] at hp)) | refine w8 ?_ | refine w9 ?_ | refine w10 ?_ | refine w11 ?_ | refine w12 ?_ | refine w13 ?_ | refine w14 ?_ | refine w15 ?_ | refine w16 ?_ | refine w17 ?_ | refine w18 ?_ | refine w19 ?_ | refine w20 ?_ | refine w21 (by decide) ?_ | refine hleave .ret _ (by simp) ?_ | refine hleave (.exit _) _ (by simp) ?_ | refine w22 ?_
      all_goals simp [EndA, onlyV]
    · have h1 : l.map (nth E) ≠ [] := by simpa using h0
      rw [onC_1 h1]
      repeat' first | refine w0 ?_ | refine w1 ?_ | ((first | refine w2 fun K hK => ?_ | refine w3 fun K hK => ?_ | refine w4 fun K hK => ?_ | refine w5 fun K hK => ?_); simp (maxSteps := 4000000) +contextual [hp]; (try (refine finD rfl ?_; simp)); refine hK _ ?_; clear hK K) | ((first | refine w6 rfl (fun h => ?_) (fun h => ?_) | refine w7 rfl (fun h => ?_) (fun h => ?_)) <;> (replace hp := And.intro h hp; clear h; try simp only [z0, z1, z2, z3, z4, z5, z6, z7, z8, z9, z10, z11, z12] at hp)) | refine w8 ?_ | refine w9 ?_ | refine w10 ?_ | refine w11 ?_ | refine w12 ?_ | refine w13 ?_ | refine w14 ?_ | refine w15 ?_ | refine w16 ?_ | refine w17 ?_ | refine w18 ?_ | refine w19 ?_ | refine w20 ?_ | refine w21 (by decide) ?_ | refine hleave .ret _ (by simp) ?_ | refine hleave (.exit _) _ (by simp) ?_ | refine w22 ?_
      all_goals simp [EndA, onlyV, h0]
theorem only_ok2 {B : Heap} {N : List Nd} {E : List (Nat × Nat)} {l : List Nat} (hl : ∀ i ∈ l, i < E.length) (hb : l.length ≤ 1000000) : Ok B 16 [wV N E, .slice 1 (l.map nV)] [] (wV N (l.map (nth E))) [] [] := by
  have h := only_ok (B := B) (N := N) hl hb
  by_cases hF : l.map (nth E) = []
  · rw [hF] at h ⊢
    exact reval h (fun H μ v hv => nils_slice hv) rfl
  · unfold onlyV at h
    rw [if_neg hF] at h
    exact h
end Go.Proofs.YtjabgfnljbnmmaaDoor
