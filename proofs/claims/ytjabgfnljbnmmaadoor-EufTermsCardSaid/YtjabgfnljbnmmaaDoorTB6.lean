/- A part of the proof of a law of this seat: no condition. -/
import Derived.Test.YtjabgfnljbnmmaaDoorTB2
import Derived.Test.YtjabgfnljbnmmaaDoorD16
set_option linter.unusedVariables false
set_option linter.unusedSimpArgs false
namespace Go.Proofs.YtjabgfnljbnmmaaDoor
open Go.Ax
/-- A term is written once. -/
theorem Play.again {K} {G : GS} {m j : Nat} (h : Play G m) (hm : m < 999) (hj : j < G.N.length) : Ok (bs K) 18 [gR, .str (nth G.N j).f, .slice 1 ((nth G.N j).a.map nV)] (gObs G) (.tup [nV j, nV 0]) (gObs G) [] := by
  obtain ⟨ρ, H, hI⟩ := h.ex
  obtain ⟨n1, n2, n3⟩ := hI.nf j hj
  have hnm := h.nm
  cases hk : lk G.W (keyL (nth G.N j).f (nth G.N j).a) with
  | none => exact absurd rfl (lk_none hk _ (h.w2 j hj))
  | some i =>
    obtain ⟨g1, g2⟩ := h.w1 _ (lk_mem2 hk)
    simp only at g1 g2
    obtain ⟨g3, g4⟩ := keyL_inj g2
    have e : nth G.N j = nth G.N i := by
      cases hx : nth G.N j with
      | mk f a => cases hy : nth G.N i with
        | mk f' a' => rw [hx, hy] at g3 g4; simp only at g3 g4; rw [g3, g4]
    have := h.ds j i hj g1 e
    subst this
    exact node_old n1 (by omega) (fun x hx => Nat.lt_trans (n3 x hx) hj) (by omega) hk
end Go.Proofs.YtjabgfnljbnmmaaDoor
