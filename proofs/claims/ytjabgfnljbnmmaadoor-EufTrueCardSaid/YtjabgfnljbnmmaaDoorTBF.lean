/- A part of the proof of a law of this seat: no condition. -/
import Derived.Test.YtjabgfnljbnmmaaDoorTB1
import Derived.Test.YtjabgfnljbnmmaaDoorD1
set_option linter.unusedVariables false
namespace Go.Proofs.YtjabgfnljbnmmaaDoor
open Go.Ax
theorem Play.find {B G m c a} (h : Play G m) (hm : m < 999) (hc : Told G.N G.E c) (ha : a < G.N.length) : Ok B 22 [gR, nV a] (gObs G) (.tup [nV (nth c a), nV 0]) (gObs G) [] := by
  obtain ⟨ρ, H, hI⟩ := h.ex
  obtain ⟨k, hk⟩ := hI.rt a ha
  obtain ⟨h0, hl⟩ := hI.least ha
  have he : nth c a = (nth G.C (ρ a)).foldl min (nth (nth G.C (ρ a)) 0) := (hc.least ha).uniq hl
  rw [he]
  have := lens_nth (U := G.C) (i := ρ a)
  have := hI.cs
  have := h.nm
  exact find_ok ha hk (by rw [hI.lc]; exact (hI.rl a ha).1) h0 (by omega)
end Go.Proofs.YtjabgfnljbnmmaaDoor
