/- A part of the proof of a law of this seat: no condition. -/
import Derived.Test.YtjabgfnljbnmmaaDoorE13
import Derived.Test.YtjabgfnljbnmmaaDoorE2
set_option linter.unusedSimpArgs false
set_option linter.unusedVariables false
set_option maxRecDepth 20000
set_option maxHeartbeats 40000000
namespace Go.Proofs.YtjabgfnljbnmmaaDoor
open Go.Ax
attribute [-simp] List.map_set
theorem All.len {N D seen need todo seen' need' k} (h : All N D seen need todo seen' need' k) : need'.length = need.length := by
 have hw : ∀ {top a : Nat} {nd nd' : List Bool} {o o' : List (Nat × Nat)} {k : Nat}, Way N D top a nd o nd' o' k → nd'.length = nd.length := by
  intro top a nd nd' o o' k h
  induction h with
  | stop => rfl
  | eqn _ _ _ _ _ ih => simpa using ih
  | cong _ _ _ _ _ _ _ _ ih => exact ih
 induction h with
 | nil => rfl
 | skip _ _ _ ih => exact ih
 | step _ _ _ _ h1 h2 _ _ ih => rw [ih, hw h2, hw h1]
def idxs (need : List Bool) (j : Nat) : List Nat := (List.range j).filter fun i => nth need i
theorem idxs_step (need : List Bool) (j : Nat) : idxs need (j + 1) = if nth need j = true then idxs need j ++ [j] else idxs need j := by
 unfold idxs
 rw [List.range_succ, List.filter_append]
 by_cases h : nth need j = true
 ·simp [h]
 ·simp [h]
theorem idxs_len (need : List Bool) (j : Nat) : (idxs need j).length ≤ j := by
 unfold idxs
 have := List.length_filter_le (fun i => nth need i) (List.range j)
 simpa using this
end Go.Proofs.YtjabgfnljbnmmaaDoor
