/- A part of the proof of a law of this seat: no condition. -/
import Derived.Test.YtjabgfnljbnmmaaDoorE16
set_option linter.unusedSimpArgs false
set_option linter.unusedVariables false
set_option maxRecDepth 20000
set_option maxHeartbeats 40000000
namespace Go.Proofs.YtjabgfnljbnmmaaDoor
open Go.Ax
attribute [-simp] List.map_set
abbrev CM := List Nat × Bool
def pStep (N : List Nd) (i : Nat) (s : CM) (k : Nat) : CM := if nth s.1 i ≠ nth s.1 k ∧ likeF N s.1 i k = true then (joinF s.1 i k, true) else s
def pK (N : List Nd) (i : Nat) (s : CM) (k : Nat) : CM := (List.range k).foldl (pStep N i) s
def pI (N : List Nd) (s : CM) (i : Nat) : CM := (List.range i).foldl (fun s i => pK N i s i) s
theorem pK_succ (N i s k) : pK N i s (k + 1) = pStep N i (pK N i s k) k := by simp [pK, List.range_succ]
theorem pI_succ (N s i) : pI N s (i + 1) = pK N i (pI N s i) i := by simp [pI, List.range_succ]
theorem joinF_len (c a b) : (joinF c a b).length = c.length := by simp [joinF]
theorem pK_len (N i s k) : (pK N i s k).1.length = s.1.length := by
  induction k with
  | zero => rfl
  | succ k ih =>
    rw [pK_succ]
    unfold pStep
    split
    · rw [joinF_len, ih]
    · exact ih
theorem pI_len (N s i) : (pI N s i).1.length = s.1.length := by
  induction i with
  | zero => rfl
  | succ i ih => rw [pI_succ, pK_len, ih]
def eqAll (c : List Nat) (E : List (Nat × Nat)) : List Nat := E.foldl (fun c e => joinF c e.1 e.2) c
theorem eqAll_len (c E) : (eqAll c E).length = c.length := by
  induction E generalizing c with
  | nil => rfl
  | cons e E ih => simp only [eqAll, List.foldl_cons]; have := ih (joinF c e.1 e.2); simp only [eqAll] at this; rw [this, joinF_len]
theorem eqAll_step {c : List Nat} {E : List (Nat × Nat)} {j : Nat} (h : j < E.length) : eqAll c (E.take (j + 1)) = joinF (eqAll c (E.take j)) (nth E j).1 (nth E j).2 := by
  simp [eqAll, take_nth h]
inductive CRun (N : List Nd) : List Nat → List Nat → Nat → Prop
  | done {c} (h : (pI N (c, false) N.length).2 = false) : CRun N c (pI N (c, false) N.length).1 0
  | again {c c' k} (h : (pI N (c, false) N.length).2 = true) (hr : CRun N (pI N (c, false) N.length).1 c' k) : CRun N c c' (k + 1)
def rangeZ (n j : Nat) : List Nat := List.range j ++ List.replicate (n - j) 0
theorem rangeZ_len {n j} (h : j ≤ n) : (rangeZ n j).length = n := by simp [rangeZ]; omega
theorem rangeZ_set {n j} (h : j < n) : (rangeZ n j).set j j = rangeZ n (j + 1) := by
  unfold rangeZ
  obtain ⟨k, hk⟩ : ∃ k, n - j = k + 1 := ⟨n - j - 1, by omega⟩
  rw [hk, show n - (j + 1) = k by omega, List.set_append_right _ _ (by simp), List.range_succ]
  simp [List.replicate_succ]
end Go.Proofs.YtjabgfnljbnmmaaDoor
