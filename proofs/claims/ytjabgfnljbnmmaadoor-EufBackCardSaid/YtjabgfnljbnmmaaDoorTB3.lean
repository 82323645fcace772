/- A part of the proof of a law of this seat: no condition. -/
import Derived.Test.YtjabgfnljbnmmaaDoorTB2
import Derived.Test.YtjabgfnljbnmmaaDoorD10
set_option linter.unusedVariables false
namespace Go.Proofs.YtjabgfnljbnmmaaDoor
open Go.Ax
theorem Play.tight {G m m'} (h : Play G m) (h1 : G.N.length ≤ m') (h2 : G.E.length ≤ m') : Play G m' := { h with nm := h1, em := h2 }
theorem erun_ex {K} {N : List Nd} {E : List (Nat × Nat)} (hN : N.length ≤ 60) (hEl : E.length ≤ 60) (hE : ∀ e ∈ E, e.1 < N.length ∧ e.2 < N.length) :
    ∀ (d j : Nat) (G : GS), E.length - j = d → j ≤ E.length → Play G 60 → G.N = N → G.E = E.take j → ∃ G', ERun (bs K) E j G G' ∧ Play G' 60 ∧ G'.N = N ∧ G'.E = E := by
  intro d
  induction d with
  | zero =>
    intro j G hd hj h h1 h2
    have : j = E.length := by omega
    subst this
    exact ⟨G, .done, h, h1, by rw [h2, List.take_length]⟩
  | succ d ih =>
    intro j G hd hj h h1 h2
    have hjl : j < E.length := by omega
    obtain ⟨ha, hb⟩ := hE _ (nth_memE hjl)
    obtain ⟨G1, n, e, g1, _, g3, g4, _, g6, _⟩ := equal_play (K := K) (a := ((nth E j).1 : Int)) (b := ((nth E j).2 : Int)) h (by omega)
    obtain ⟨q1, q2, q3⟩ := g6 ⟨⟨by omega, by rw [h1]; omega⟩, ⟨by omega, by rw [h1]; omega⟩⟩
    have hlen : G.E.length = j := by rw [h2, List.length_take]; omega
    rw [q1, q2, hlen] at g1
    have hE1 : G1.E = E.take (j + 1) := by rw [q3, h2, take_nth hjl]; simp
    obtain ⟨G', i1, i2, i3, i4⟩ := ih (j + 1) G1 (by omega) hjl (g3.tight (by rw [g4, h1]; exact hN) (by rw [hE1, List.length_take]; omega)) (by rw [g4, h1]) hE1
    exact ⟨G', .step hjl g1 i1, i2, i3, i4⟩
end Go.Proofs.YtjabgfnljbnmmaaDoor
