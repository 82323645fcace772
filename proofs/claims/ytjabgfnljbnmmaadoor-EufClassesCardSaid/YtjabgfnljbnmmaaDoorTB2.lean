/- A part of the proof of a law of this seat: no condition. -/
import Derived.Test.YtjabgfnljbnmmaaDoorTB1
import Derived.Test.YtjabgfnljbnmmaaDoorTH
import Derived.Test.YtjabgfnljbnmmaaDoorD6
set_option linter.unusedSimpArgs false
set_option linter.unusedVariables false
set_option maxHeartbeats 4000000
namespace Go.Proofs.YtjabgfnljbnmmaaDoor
open Go.Ax
theorem idxs_mem {need : List Bool} {n i : Nat} : i ∈ idxs need n ↔ i < n ∧ nth need i = true := by
 unfold idxs
 rw [List.mem_filter, List.mem_range]
theorem idxs_sorted (need : List Bool) (n : Nat) : (idxs need n).Pairwise (· < ·) := List.Pairwise.filter _ List.pairwise_lt_range
/-- The reasons suffice. -/
theorem Play.expl {B G m a b} (h : Play G m) (hm : m < 999) (ha : a < G.N.length) (hb : b < G.N.length) (he : Eqv G.N G.E a b) :
  ∃ l : List Nat, Ok B 13 [gR, nV a, nV b] (gObs G) (.tup [.slice 1 (l.map nV), nV 0]) (gObs G) [] ∧ (∀ i ∈ l, i < G.E.length) ∧ l.Pairwise (· < ·) ∧ Eqv G.N (l.map (nth G.E)) a b := by
 obtain ⟨ρ, H, hI⟩ := h.ex
 obtain ⟨k, hk⟩ := hI.rt a ha
 obtain ⟨l, hl⟩ := hI.rt b hb
 have hr := hI.complete he
 obtain ⟨seen, need, q, h1, h2⟩ := hI.expl ha hb hr
 have := h.em
 refine ⟨idxs need G.E.length, expl_ok ha hb hk (by rw [hr]; exact hl) (by omega) h1, fun i hi => (idxs_mem.1 hi).1, idxs_sorted _ _, h2 _ fun i hi hn => List.mem_map.2 ⟨i, idxs_mem.2 ⟨hi, hn⟩, rfl⟩⟩
/-! ### The page's example -/
theorem eqv_le {N E} {c : List Nat} (he : ∀ e ∈ E, nth c e.1 = nth c e.2) (hp : ∀ p, p < N.length → ∀ q, q < p → nth c p = nth c q ∨ likeF N c p q = false) {a b} (hab : Eqv N E a b) : nth c a = nth c b := by
 induction hab with
 | refl => rfl
 | symm _ ih => exact ih.symm
 | trans _ _ i1 i2 => exact i1.trans i2
 | eqn h => exact he _ h
 | @cong i k hi hk hf hl h0 _ ih =>
  have h0k : (nth N k).a ≠ [] := fun e => h0 (List.eq_nil_of_length_eq_zero (by rw [hl, e]; rfl))
  rcases Nat.lt_trichotomy i k with g | g | g
  ·rcases hp k hk i g with e | e
   ·exact e.symm
   ·have : likeF N c k i = true := decide_eq_true ⟨hf.symm, hl.symm, h0k, fun j hj => (ih j (by omega)).symm⟩
    rw [this] at e; cases e
  ·rw [g]
  ·rcases hp i hi k g with e | e
   ·exact e
   ·have : likeF N c i k = true := decide_eq_true ⟨hf, hl, h0, ih⟩
    rw [this] at e; cases e
def awN : List Nd := [⟨[97], []⟩, ⟨[102], [0]⟩, ⟨[102], [1]⟩, ⟨[102], [2]⟩]
theorem aw_apart (E : List (Nat × Nat)) (h : E = [] ∨ E = [(2, 0)] ∨ E = [(3, 0)]) : ¬ Eqv awN E 1 0 := by
 intro he
 rcases h with rfl | rfl | rfl
 ·have := eqv_le (c := [0, 1, 2, 3]) (by decide) (by decide) he
  revert this; decide
 ·have := eqv_le (c := [0, 1, 0, 1]) (by decide) (by decide) he
  revert this; decide
 ·have := eqv_le (c := [0, 1, 2, 0]) (by decide) (by decide) he
  revert this; decide
theorem aw_same : Eqv awN [(2, 0), (3, 0)] 1 0 := by
 have h1 : Eqv awN [(2, 0), (3, 0)] 3 1 := .cong (by decide) (by decide) rfl rfl (by decide) fun j hj => by
  have : j = 0 := by
   have : (nth awN 3).a.length = 1 := rfl
   omega
  subst this
  exact .eqn (by decide)
 exact .trans (.symm h1) (.eqn (by decide))
theorem aw_len {l : List Nat} (h1 : ∀ i ∈ l, i < 2) (h2 : l.Pairwise (· < ·)) (h3 : Eqv awN (l.map (nth [(2, 0), (3, 0)])) 1 0) : l.length = 2 := by
 match l, h1, h2, h3 with
 | [], _, _, h3 => exact absurd h3 (aw_apart _ (.inl rfl))
 | [i], h1, _, h3 =>
  have := h1 i (by simp)
  have hi : i = 0 ∨ i = 1 := by omega
  rcases hi with rfl | rfl
  ·exact absurd h3 (aw_apart _ (.inr (.inl rfl)))
  ·exact absurd h3 (aw_apart _ (.inr (.inr rfl)))
 | [i, j], _, _, _ => rfl
 | i :: j :: k :: r, h1, h2, _ =>
  exfalso
  have a1 := h1 k (by simp)
  simp only [List.pairwise_cons] at h2
  have a2 := h2.1 j (by simp)
  have a3 := h2.2.1 k (by simp)
  omega
theorem aw_node {K} {G : GS} {N : List Nd} {E : List (Nat × Nat)} {m : Nat} {f : List UInt8} {xs : List Nat} (h : Play G m) (hm : m < 999) (hN : G.N = N) (hE : G.E = E) (hf : f.length ≤ 100) (hl : xs.length ≤ 20) (hx : ∀ x ∈ xs, x < N.length) (hne : ∀ x ∈ N, x ≠ ⟨f, xs⟩) :
  ∃ G', Ok (bs K) 29 [gR, wV2 N E, opV ⟨0, f, xs.map fun (x : Nat) => (x : Int), 0, 0⟩] (gObs G) (.tup [wV2 (N ++ [⟨f, xs⟩]) E, .bool true]) (gObs G') [] ∧ Play G' (m + 1) ∧ G'.N = N ++ [⟨f, xs⟩] ∧ G'.E = E := by
 subst hN hE
 have e : (xs.map fun (x : Nat) => (x : Int)).map Int.toNat = xs := by
  rw [List.map_map]
  conv => rhs; rw [← List.map_id xs]
  apply List.map_congr_left
  intro x _; simp
 obtain ⟨G', n, er, h1, h2, h3, h4, h5, h6⟩ := node_play (K := K) (f := f) (l := xs.map fun (x : Nat) => (x : Int)) h hm (by omega) (by simp; omega)
 obtain ⟨_, q2, q3⟩ := h6 (fun x hx' => by
  obtain ⟨y, hy, rfl⟩ := List.mem_map.1 hx'
  have := hx y hy
  exact ⟨by omega, by omega⟩)
 rw [e] at h4 q3
 rcases h4 with g | ⟨g1, g2⟩
 ·rw [g] at q2 q3
  exact absurd q3 (hne _ (nth_mem q2))
 ·refine ⟨G', ?_, h3, g1, g2⟩
  have := step_node (o := ⟨0, f, xs.map fun (x : Nat) => (x : Int), 0, 0⟩) rfl h2 h1
  rw [g1, g2] at this
  exact this
theorem aw_equal {K} {G : GS} {N : List Nd} {E : List (Nat × Nat)} {m : Nat} {a b : Nat} (h : Play G m) (hm : m < 999) (hN : G.N = N) (hE : G.E = E) (ha : a < N.length) (hb : b < N.length) :
  ∃ G', Ok (bs K) 29 [gR, wV2 N E, opV ⟨1, [], [], a, b⟩] (gObs G) (.tup [wV2 N (E ++ [(a, b)]), .bool true]) (gObs G') [] ∧ Play G' (m + 1) ∧ G'.N = N ∧ G'.E = E ++ [(a, b)] := by
 subst hN hE
 obtain ⟨G', n, er, h1, h2, h3, h4, _, h6, _⟩ := equal_play (K := K) (a := (a : Int)) (b := (b : Int)) h hm
 obtain ⟨_, _, q3⟩ := h6 ⟨⟨by omega, by omega⟩, ⟨by omega, by omega⟩⟩
 simp at q3
 refine ⟨G', ?_, h3, h4, q3⟩
 have := step_equal (o := ⟨1, [], [], a, b⟩) rfl h2 h1
 rw [h4, q3] at this
 exact this
theorem awake_ok {K} : Ok (bs K) 11 [] [] (.bool true) [] [] := by
 obtain ⟨G1, a1, b1, c1, d1⟩ := aw_node (K := K) (G := gs0) (N := []) (E := []) (f := [97]) (xs := []) gs0_play (by omega) rfl rfl (by decide) (by decide) (by decide) (by decide)
 obtain ⟨G2, a2, b2, c2, d2⟩ := aw_node (K := K) (f := [102]) (xs := [0]) b1 (by omega) c1 d1 (by decide) (by decide) (by decide) (by decide)
 obtain ⟨G3, a3, b3, c3, d3⟩ := aw_node (K := K) (f := [102]) (xs := [1]) b2 (by omega) c2 d2 (by decide) (by decide) (by decide) (by decide)
 obtain ⟨G4, a4, b4, c4, d4⟩ := aw_node (K := K) (f := [102]) (xs := [2]) b3 (by omega) c3 d3 (by decide) (by decide) (by decide) (by decide)
 obtain ⟨G5, a5, b5, c5, d5⟩ := aw_equal (K := K) (a := 2) (b := 0) b4 (by omega) c4 d4 (by decide) (by decide)
 obtain ⟨G6, a6, b6, c6, d6⟩ := aw_equal (K := K) (a := 3) (b := 0) b5 (by omega) c5 d5 (by decide) (by decide)
 have hN : G6.N = awN := c6
 have hE : G6.E = [(2, 0), (3, 0)] := d6
 have hR : PRun (bs K) awSc 0 gs0 [] [] G6 awN [(2, 0), (3, 0)] :=
  .step (by decide) (by decide) (by decide) a1 (.step (by decide) (by decide) (by decide) a2 (.step (by decide) (by decide) (by decide) a3 (.step (by decide) (by decide) (by decide) a4
   (.step (by decide) (by decide) (by decide) a5 (.step (by decide) (by decide) (by decide) a6 (.done (.inl (by decide))))))))
 have hP := played_ok hR (by rw [hN]) (by rw [hE])
 have h0 : 0 < G6.N.length := by rw [hN]; decide
 have h1 : 1 < G6.N.length := by rw [hN]; decide
 have heq : Eqv G6.N G6.E 1 0 := by rw [hN, hE]; exact aw_same
 obtain ⟨c, k, hc1, hc2⟩ := b6.told
 have hS := b6.same (B := bs K) hc2 h0 h1
 rw [decide_eq_true (hc2.2 _ _ heq).symm] at hS
 obtain ⟨l, l1, l2, l3, l4⟩ := b6.expl (B := bs K) (by omega) h1 h0 heq
 rw [hE] at l2 l4
 rw [hN] at l4
 exact awake_walk (N := awN) rfl (aw_len l2 l3 l4) hP hS l1
end Go.Proofs.YtjabgfnljbnmmaaDoor
