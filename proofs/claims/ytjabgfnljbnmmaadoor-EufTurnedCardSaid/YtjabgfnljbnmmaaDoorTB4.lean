/- A part of the proof of a law of this seat: no condition. -/
import Derived.Test.YtjabgfnljbnmmaaDoorTB2
import Derived.Test.YtjabgfnljbnmmaaDoorD12
set_option linter.unusedVariables false
set_option linter.unusedSimpArgs false
namespace Go.Proofs.YtjabgfnljbnmmaaDoor
open Go.Ax
theorem Play.tight2 {G m m'} (h : Play G m) (h1 : G.N.length ≤ m') (h2 : G.E.length ≤ m') : Play G m' := { h with nm := h1, em := h2 }
theorem toNat_map (xs : List Nat) : (xs.map fun (x : Nat) => (x : Int)).map Int.toNat = xs := by
  rw [List.map_map]
  conv => rhs; rw [← List.map_id xs]
  apply List.map_congr_left
  intro x _; simp
theorem nrun_ex {K} {N : List Nd} (hN : N.length ≤ 60) (hds : ∀ i j, i < N.length → j < N.length → nth N i = nth N j → i = j)
    (hnf : ∀ u, u < N.length → (nth N u).f.length ≤ 140737488355328 ∧ (nth N u).a.length ≤ 100 ∧ ∀ a ∈ (nth N u).a, a < u) :
    ∀ (d j : Nat) (G : GS), N.length - j = d → j ≤ N.length → Play G 60 → G.N = N.take j → G.E = [] → ∃ G', NRun (bs K) N j G G' ∧ Play G' 60 ∧ G'.N = N ∧ G'.E = [] := by
  intro d
  induction d with
  | zero =>
    intro j G hd hj h h1 h2
    have : j = N.length := by omega
    subst this
    exact ⟨G, .done, h, by rw [h1, List.take_length], h2⟩
  | succ d ih =>
    intro j G hd hj h h1 h2
    have hjl : j < N.length := by omega
    have hlen : G.N.length = j := by rw [h1, List.length_take]; omega
    obtain ⟨n1, n2, n3⟩ := hnf j hjl
    obtain ⟨G1, n, e, g1, _, g3, g4, _, g6⟩ := node_play (K := K) (f := (nth N j).f) (l := (nth N j).a.map fun (x : Nat) => (x : Int)) h (by omega) n1 (by simpa using n2)
    obtain ⟨_, q2, q3⟩ := g6 (fun x hx => by
      obtain ⟨y, hy, rfl⟩ := List.mem_map.1 hx
      have := n3 y hy
      exact ⟨by omega, by rw [hlen]; omega⟩)
    rw [toNat_map] at g4 q3
    have e1 : (⟨(nth N j).f, (nth N j).a⟩ : Nd) = nth N j := rfl
    rw [e1] at g4 q3
    rcases g4 with g | ⟨k1, k2⟩
    · exfalso
      rw [g, hlen] at q2
      rw [g, h1] at q3
      have e2 : nth (N.take j) n = nth N n := by simp [nth, q2]
      rw [e2] at q3
      have := hds n j (by omega) hjl q3
      omega
    · have hN1 : G1.N = N.take (j + 1) := by rw [k1, h1, take_nth hjl]
      obtain ⟨G', i1, i2, i3, i4⟩ := ih (j + 1) G1 (by omega) hjl (g3.tight2 (by rw [hN1, List.length_take]; omega) (by rw [k2, h2]; exact Nat.zero_le _)) hN1 (by rw [k2, h2])
      have g2 : Ok (bs K) 18 [gR, .str (nth N j).f, .slice 1 ((nth N j).a.map nV)] (gObs G) (.tup [nV n, nV e]) (gObs G1) [] := by
        rw [List.map_map] at g1
        exact g1
      exact ⟨G', .step hjl g2 i1, i2, i3, i4⟩
def swp (e : Nat × Nat) : Nat × Nat := (e.2, e.1)
theorem rrun_ex {K} {N : List Nd} {E : List (Nat × Nat)} (hN : N.length ≤ 60) (hEl : E.length ≤ 60) (hE : ∀ e ∈ E, e.1 < N.length ∧ e.2 < N.length) :
    ∀ (m : Nat) (G : GS), m ≤ E.length → Play G 60 → G.N = N → G.E = ((E.drop m).reverse).map swp → ∃ G', RRun (bs K) E m G G' ∧ Play G' 60 ∧ G'.N = N ∧ G'.E = E.reverse.map swp := by
  intro m
  induction m with
  | zero => intro G _ h h1 h2; exact ⟨G, .done, h, h1, by rw [h2, List.drop_zero]⟩
  | succ m ih =>
    intro G hm h h1 h2
    obtain ⟨ha, hb⟩ := hE _ (nth_memE (show m < E.length by omega))
    obtain ⟨G1, n, e, g1, _, g3, g4, _, g6, _⟩ := equal_play (K := K) (a := ((nth E m).2 : Int)) (b := ((nth E m).1 : Int)) h (by omega)
    obtain ⟨_, _, q3⟩ := g6 ⟨⟨by omega, by rw [h1]; omega⟩, ⟨by omega, by rw [h1]; omega⟩⟩
    have hd : E.drop m = nth E m :: E.drop (m + 1) := by
      rw [List.drop_eq_getElem_cons (show m < E.length by omega), getElem_nthP]
    have hE1 : G1.E = ((E.drop m).reverse).map swp := by
      rw [q3, h2, hd]; simp [swp]
    have hlen : G1.E.length ≤ 60 := by rw [hE1]; simp; omega
    obtain ⟨G', i1, i2, i3, i4⟩ := ih G1 (by omega) (g3.tight2 (by rw [g4, h1]; exact hN) hlen) (by rw [g4, h1]) hE1
    exact ⟨G', .step (by omega) g1 i1, i2, i3, i4⟩
theorem Eqv.mono {N E E'} (h : ∀ a b, (a, b) ∈ E → Eqv N E' a b) {a b} (he : Eqv N E a b) : Eqv N E' a b := by
  induction he with
  | refl => exact .refl
  | symm _ ih => exact .symm ih
  | trans _ _ i1 i2 => exact .trans i1 i2
  | eqn h' => exact h _ _ h'
  | cong hi hk hf hl h0 _ ih => exact .cong hi hk hf hl h0 ih
theorem swp_eqv {N E a b} : Eqv N E a b ↔ Eqv N (E.reverse.map swp) a b := by
  constructor
  · exact Eqv.mono fun a b h => .symm (.eqn (List.mem_map.2 ⟨(a, b), List.mem_reverse.2 h, rfl⟩))
  · exact Eqv.mono fun a b h => by
      obtain ⟨e, he, h2⟩ := List.mem_map.1 h
      simp only [swp, Prod.mk.injEq] at h2
      rw [← h2.1, ← h2.2]
      exact .symm (.eqn (List.mem_reverse.1 he))
theorem Told.swp {N E c} (h : Told N E c) : Told N (E.reverse.map swp) c :=
  ⟨⟨h.1.len, h.1.le, h.1.idem, fun v w hv hw e => swp_eqv.1 (h.1.sound v w hv hw e)⟩, fun a b he => h.2 a b (swp_eqv.2 he)⟩
end Go.Proofs.YtjabgfnljbnmmaaDoor
