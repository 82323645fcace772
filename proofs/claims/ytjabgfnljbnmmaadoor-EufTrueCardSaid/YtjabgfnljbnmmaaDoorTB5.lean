/- A part of the proof of a law of this seat: no condition. -/
import Derived.Test.YtjabgfnljbnmmaaDoorTB2
import Derived.Test.YtjabgfnljbnmmaaDoorD13
set_option linter.unusedVariables false
set_option linter.unusedSimpArgs false
namespace Go.Proofs.YtjabgfnljbnmmaaDoor
open Go.Ax
def vsL (N : List Nd) (seed : List Int) : Nat → List Nat
  | 0 => []
  | j + 1 => vsL N seed j ++ [valF (nth N j) (vsL N seed j) seed]
theorem vsL_len (N : List Nd) (seed : List Int) (j : Nat) : (vsL N seed j).length = j := by
  induction j with
  | zero => rfl
  | succ j ih => rw [vsL, List.length_append, ih]; rfl
theorem vsL_take (N : List Nd) (seed : List Int) {j n : Nat} (h : j ≤ n) : (vsL N seed n).take j = vsL N seed j := by
  induction n with
  | zero =>
    have : j = 0 := by omega
    subst this; rfl
  | succ n ih =>
    by_cases e : j = n + 1
    · subst e; exact List.take_of_length_le (by rw [vsL_len]; exact Nat.le_refl _)
    · rw [vsL, List.take_append_of_le_length (by rw [vsL_len]; omega)]
      exact ih (by omega)
theorem vsL_get (N : List Nd) (seed : List Int) {j n : Nat} (h : j < n) : nth (vsL N seed n) j = valF (nth N j) (vsL N seed j) seed := by
  induction n with
  | zero => cases h
  | succ n ih =>
    by_cases e : j = n
    · subst e
      rw [vsL]
      exact nth_lastE (vsL_len _ _ _)
    · rw [vsL, nth_app (by rw [vsL_len]; omega)]
      exact ih (by omega)
theorem vsL_pre (N : List Nd) (seed : List Int) {a j n : Nat} (h : a < j) (hj : j ≤ n) : nth (vsL N seed j) a = nth (vsL N seed n) a := by
  rw [vsL_get N seed h, vsL_get N seed (Nat.lt_of_lt_of_le h hj)]
theorem vsL_le (N : List Nd) (seed : List Int) (n : Nat) : ∀ v ∈ vsL N seed n, v ≤ 2 := by
  induction n with
  | zero => intro v hv; cases hv
  | succ n ih =>
    intro v hv
    rw [vsL] at hv
    rcases List.mem_append.1 hv with h | h
    · exact ih v h
    · rw [List.mem_singleton] at h; subst h; exact hO_lt _ _
theorem hA_congr {vals : List Nat} : ∀ (xs ys : List Nat) (k : Nat), xs.length = ys.length → (∀ j, j < xs.length → nth vals (nth xs j) = nth vals (nth ys j)) → hA vals xs k = hA vals ys k
  | [], [], _, _, _ => rfl
  | x :: xs, y :: ys, k, hl, h => by
    have h0 := h 0 (by simp)
    have e0 : nth vals x = nth vals y := h0
    show hA vals xs ((k * 5 + nth vals x + 1) % 1009) = hA vals ys ((k * 5 + nth vals y + 1) % 1009)
    rw [e0]
    exact hA_congr xs ys _ (by simpa using hl) (fun j hj => h (j + 1) (by simpa using hj))
  | [], _ :: _, _, hl, _ => by simp at hl
  | _ :: _, [], _, hl, _ => by simp at hl
theorem hA_vals {u v : List Nat} : ∀ (xs : List Nat) (k : Nat), (∀ a ∈ xs, nth u a = nth v a) → hA u xs k = hA v xs k
  | [], _, _ => rfl
  | x :: xs, k, h => by
    have e0 := h x (by simp)
    show hA u xs ((k * 5 + nth u x + 1) % 1009) = hA v xs ((k * 5 + nth v x + 1) % 1009)
    rw [e0]
    exact hA_vals xs _ (fun a ha => h a (by simp [ha]))
/-- Where the equations hold what follows has one value. -/
theorem vals_eqv {N : List Nd} {E : List (Nat × Nat)} {seed : List Int} (hN : ∀ u, u < N.length → ∀ a ∈ (nth N u).a, a < u) (hE : ∀ e ∈ E, nth (vsL N seed N.length) e.1 = nth (vsL N seed N.length) e.2) {a b : Nat} (h : Eqv N E a b) :
    nth (vsL N seed N.length) a = nth (vsL N seed N.length) b := by
  induction h with
  | refl => rfl
  | symm _ ih => exact ih.symm
  | trans _ _ i1 i2 => exact i1.trans i2
  | eqn h => exact hE _ h
  | @cong i k hi hk hf hl h0 _ ih =>
    have whole : ∀ u, u < N.length → nth (vsL N seed N.length) u = hO (hA (vsL N seed N.length) (nth N u).a (hF (nth N u).f (nth N u).f.length)) seed := fun u hu => by
      rw [vsL_get N seed hu]
      unfold valF
      rw [hA_vals (u := vsL N seed u) (v := vsL N seed N.length) _ _ (fun a ha => vsL_pre N seed (hN u hu a ha) (Nat.le_of_lt hu))]
    rw [whole i hi, whole k hk, hf, hA_congr _ _ _ hl ih]
end Go.Proofs.YtjabgfnljbnmmaaDoor
