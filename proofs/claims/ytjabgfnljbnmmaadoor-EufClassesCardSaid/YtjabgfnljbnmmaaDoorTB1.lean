/- A part of the proof of a law of this seat: no condition. -/
import Derived.Test.YtjabgfnljbnmmaaDoorTH
import Derived.Test.YtjabgfnljbnmmaaDoorD4
import Derived.Test.YtjabgfnljbnmmaaDoorE8
import Derived.Test.YtjabgfnljbnmmaaDoorE9
import Derived.Test.YtjabgfnljbnmmaaDoorD1
set_option linter.unusedSimpArgs false
set_option linter.unusedVariables false
set_option maxHeartbeats 4000000
namespace Go.Proofs.YtjabgfnljbnmmaaDoor
open Go.Ax
theorem lk_none {S : List (List UInt8 × Nat)} {s : List UInt8} (h : lk S s = none) : ∀ q ∈ S, q.1 ≠ s := by
 intro q hq e
 unfold lk at h
 cases hf : S.find? (fun p => decide (p.1 = s)) with
 | none =>
  have := List.find?_eq_none.1 hf q hq
  simp [e] at this
 | some p => rw [hf] at h; cases h
/-- A graph after some calls. -/
structure Play (G : GS) (m : Nat) : Prop where
 ex : ∃ ρ H, Inv G ρ [] H
 w1 : ∀ q ∈ G.W, q.2 < G.N.length ∧ q.1 = keyL (nth G.N q.2).f (nth G.N q.2).a
 w2 : ∀ i, i < G.N.length → (keyL (nth G.N i).f (nth G.N i).a, i) ∈ G.W
 ds : ∀ i j, i < G.N.length → j < G.N.length → nth G.N i = nth G.N j → i = j
 nm : G.N.length ≤ m
 em : G.E.length ≤ m
theorem Play.mono {G m m'} (h : Play G m) (hm : m ≤ m') : Play G m' := { h with nm := Nat.le_trans h.nm hm, em := Nat.le_trans h.em hm }
theorem map_nat {l : List Int} (h : ∀ n ∈ l, 0 ≤ n) : l.map iV = (l.map Int.toNat).map nV := by
 rw [List.map_map]
 apply List.map_congr_left
 intro n hn
 have := h n hn
 simp only [Function.comp_apply, iV, nV]
 congr 1
 omega
/-- A term is written. -/
theorem node_play {K} {G : GS} {m : Nat} {f : List UInt8} {l : List Int} (h : Play G m) (hm : m < 999) (hf : f.length ≤ 140737488355328) (hl : l.length ≤ 100) :
  ∃ G' n e, Ok (bs K) 18 [gR, .str f, .slice 1 (l.map iV)] (gObs G) (.tup [nV n, nV e]) (gObs G') [] ∧ Ok (bs K) 42 [wV G.N G.E, .str f, .slice 1 (l.map iV)] [] (.tup [wV G'.N G'.E, nV n, nV e]) [] [] ∧ Play G' (m + 1) ∧
   (G' = G ∨ (G'.N = G.N ++ [⟨f, l.map Int.toNat⟩] ∧ G'.E = G.E)) ∧ (∀ a b, a < G.N.length → b < G.N.length → Eqv G.N G.E a b → Eqv G'.N G'.E a b) ∧
   ((∀ x ∈ l, isN G x) → e = 0 ∧ n < G'.N.length ∧ nth G'.N n = ⟨f, l.map Int.toNat⟩) := by
 obtain ⟨ρ, H, hI⟩ := h.ex
 have hnm := h.nm
 by_cases hb : ∃ n ∈ l, ¬ isN G n
 ·exact ⟨G, 0, 50, node_bad (by omega) hb, rnode_bad (by omega) hb, h.mono (by omega), .inl rfl, fun _ _ _ _ h => h, fun hg => by obtain ⟨x, hx, hn⟩ := hb; exact absurd (hg x hx) hn⟩
 ·have hg : ∀ n ∈ l, isN G n := fun n hn => Classical.byContradiction fun hc => hb ⟨n, hn, hc⟩
  obtain ⟨xs, hxs⟩ : ∃ xs, xs = l.map Int.toNat := ⟨_, rfl⟩
  have e : l.map iV = xs.map nV := by rw [hxs]; exact map_nat fun n hn => (hg n hn).1
  have hxl : xs.length ≤ 100 := by rw [hxs]; simpa using hl
  have hx : ∀ x ∈ xs, x < G.N.length := fun x hx => by
   rw [hxs, List.mem_map] at hx
   obtain ⟨n, hn, rfl⟩ := hx
   obtain ⟨g1, g2⟩ := hg n hn
   omega
  have hal : ∀ x ∈ G.N, x.a.length ≤ 1000000 := fun x hx => by
   obtain ⟨i, hi, hix⟩ := List.mem_iff_getElem.1 hx
   have := (hI.nf i hi).2.1
   rw [← hix, getElem_nthD hi]; omega
  rw [e]
  cases hk : lk G.W (keyL f xs) with
  | some i =>
   obtain ⟨g1, g2⟩ := h.w1 _ (lk_mem2 hk)
   simp only at g1 g2
   obtain ⟨g3, g4⟩ := keyL_inj g2
   have he : nth G.N i = ⟨f, xs⟩ := by rw [g3, g4]
   exact ⟨G, i, 0, node_old hf (by omega) hx (by omega) hk, rnode_old (by omega) hx (by omega) hal g1 he (fun j hj e => by
    have := h.ds j i (by omega) g1 (by rw [e, he]); omega), h.mono (by omega), .inl rfl, fun _ _ _ _ h => h, fun _ => ⟨rfl, g1, by rw [he, hxs]⟩⟩
  | none =>
   obtain ⟨G', ρ', H', h1, h2, h3, h4, h5, h6, h7⟩ := enter_ex (x := ⟨f, xs⟩) (W := G.W ++ [(keyL f xs, G.N.length)]) hI (by omega) hf hxl hx
   obtain ⟨k1, k2, k3, _, _⟩ := h6
   simp only at k1 k2 k3
   have hne : ∀ x ∈ G.N, x ≠ ⟨f, xs⟩ := fun x hx e => by
    obtain ⟨i, hi, hix⟩ := List.mem_iff_getElem.1 hx
    rw [getElem_nthD hi] at hix
    have := lk_none hk _ (h.w2 i hi)
    apply this
    simp only
    rw [hix, e]
   have hok : Ok (bs K) 37 [gR, nV G.N.length] (gObs { G with N := G.N ++ [⟨f, xs⟩], W := G.W ++ [(keyL f xs, G.N.length)] }) (.tup []) (gObs G') [] :=
    enter_ok hI.lp hI.lc hI.lu hI.ld (by omega) h2 h3 h4 h1
   refine ⟨G', G.N.length, 0, node_new (ρ := id) rfl hf (by omega) hx (by omega) hk hok, by rw [k1, k2]; exact rnode_new (by omega) hx (by omega) hal hne, ⟨⟨ρ', H', h5⟩, ?_, ?_, ?_, ?_, ?_⟩, .inr ⟨by rw [k1, hxs], k2⟩, fun a b ha hb hab => ?_, fun _ => ⟨rfl, by rw [k1]; simp, by rw [k1, nth_last, hxs]⟩⟩
   ·rw [k3, k1]
    intro q hq
    rcases List.mem_append.1 hq with g | g
    ·obtain ⟨g1, g2⟩ := h.w1 q g
     rw [nth_app g1]
     exact ⟨by simp; omega, g2⟩
    ·rw [List.mem_singleton] at g; subst g
     simp only
     rw [nth_last]
     exact ⟨by simp, rfl⟩
   ·rw [k3, k1]
    intro i hi
    simp at hi
    by_cases hin : i < G.N.length
    ·rw [nth_app hin]; exact List.mem_append_left _ (h.w2 i hin)
    ·have : i = G.N.length := by omega
     subst this
     rw [nth_last]; simp
   ·rw [k1]
    intro i j hi hj hij
    simp at hi hj
    by_cases hin : i < G.N.length
    ·by_cases hjn : j < G.N.length
     ·rw [nth_app hin, nth_app hjn] at hij
      exact h.ds i j hin hjn hij
     ·have : j = G.N.length := by omega
      subst this
      rw [nth_app hin, nth_last] at hij
      exact absurd hij (hne _ (nth_mem hin))
    ·have : i = G.N.length := by omega
     subst this
     by_cases hjn : j < G.N.length
     ·rw [nth_app hjn, nth_last] at hij
      exact absurd hij.symm (hne _ (nth_mem hjn))
     ·omega
   ·rw [k1]; simp; omega
   ·rw [k2]; have := h.em; omega
   ·have l1 : G'.N.length = G.N.length + 1 := by rw [k1]; simp
    exact h5.sound (by omega) (by omega) (h7 a b ha hb (hI.complete hab))
/-- An equation is said. -/
theorem equal_play {K} {G : GS} {m : Nat} {a b : Int} (h : Play G m) (hm : m < 999) :
  ∃ G' n e, Ok (bs K) 25 [gR, iV a, iV b] (gObs G) (.tup [nV n, nV e]) (gObs G') [] ∧ Ok (bs K) 43 [wV G.N G.E, iV a, iV b] [] (.tup [wV G'.N G'.E, nV n, nV e]) [] [] ∧ Play G' (m + 1) ∧ G'.N = G.N ∧
   (G' = G ∨ (isN G a ∧ isN G b ∧ n = G.E.length ∧ e = 0 ∧ G'.E = G.E ++ [(a.toNat, b.toNat)])) ∧ (isN G a ∧ isN G b → n = G.E.length ∧ e = 0 ∧ G'.E = G.E ++ [(a.toNat, b.toNat)]) ∧ (∀ u v, u < G.N.length → v < G.N.length → Eqv G.N G.E u v → Eqv G'.N G'.E u v) := by
 obtain ⟨ρ, H, hI⟩ := h.ex
 have hem := h.em
 by_cases hb : isN G a ∧ isN G b
 ·obtain ⟨x, hx⟩ := Int.eq_ofNat_of_zero_le hb.1.1
  obtain ⟨y, hy⟩ := Int.eq_ofNat_of_zero_le hb.2.1
  have hxl : x < G.N.length := by have := hb.1.2; omega
  have hyl : y < G.N.length := by have := hb.2.2; omega
  obtain ⟨G', k, ρ', H', h1, h2, h3, h4⟩ := equal_ex hI hxl hyl
  obtain ⟨k1, k2, k3, _, _⟩ := h3
  simp only at k1 k2 k3
  subst hx hy
  refine ⟨G', G.E.length, 0, equal_ok hxl hyl (by omega) h1, ?_, ⟨⟨ρ', H', h2⟩, ?_, ?_, ?_, ?_, ?_⟩, k1, .inr ⟨hb.1, hb.2, rfl, rfl, by simpa using k2⟩, fun _ => ⟨rfl, rfl, by simpa using k2⟩, fun u v hu hv huv => ?_⟩
  ·rw [k1, k2]; exact requal_ok hxl hyl (by omega)
  ·rw [k3, k1]; exact h.w1
  ·rw [k3, k1]; exact h.w2
  ·rw [k1]; exact h.ds
  ·rw [k1]; have := h.nm; omega
  ·rw [k2]; simp; omega
  ·exact h2.sound (by rw [k1]; exact hu) (by rw [k1]; exact hv) (h4 u v (hI.complete huv))
 ·exact ⟨G, 0, 50, equal_bad hb, requal_bad hb, h.mono (by omega), rfl, .inl rfl, fun h => absurd h hb, fun _ _ _ _ h => h⟩
theorem brun_ex {K} {N0 : List Nd} (hlen : N0.length < 1000) (hN : ∀ u, u < N0.length → (nth N0 u).f.length ≤ 140737488355328 ∧ (nth N0 u).a.length ≤ 100 ∧ ∀ a ∈ (nth N0 u).a, a < u) :
  ∀ (d j : Nat) (G : GS) (ρ : Nat → Nat) (H : List Pr), N0.length - j = d → j ≤ N0.length → Inv G ρ [] H → G.N = N0.take j → G.E = [] → ∃ G' ρ' H', BRun K N0 j G G' ∧ Inv G' ρ' [] H' ∧ G'.N = N0 ∧ G'.E = [] ∧ G'.W = G.W := by
 intro d
 induction d with
 | zero =>
  intro j G ρ H hd hj hI hGN hGE
  have : j = N0.length := by omega
  subst this
  exact ⟨G, ρ, H, .done, hI, by rw [hGN, List.take_length], hGE, rfl⟩
 | succ d ih =>
  intro j G ρ H hd hj hI hGN hGE
  have hjl : j < N0.length := by omega
  have hlj : G.N.length = j := by rw [hGN, List.length_take]; omega
  obtain ⟨n1, n2, n3⟩ := hN j hjl
  obtain ⟨G1, ρ1, H1, h1, h2, h3, h4, h5, h6, _⟩ := enter_ex (x := nth N0 j) (W := G.W) hI (by omega) n1 n2 (fun a ha => by rw [hlj]; exact n3 a ha)
  obtain ⟨k1, k2, k3, _, _⟩ := h6
  simp only at k1 k2 k3
  have hok : Ok (bs K) 37 [gR, nV j] (gObs { G with N := G.N ++ [nth N0 j] }) (.tup []) (gObs G1) [] := by
   rw [hlj] at h1 h2 h3 h4
   exact enter_ok (by show G.P.length = j; rw [hI.lp, hlj]) (by show G.C.length = j; rw [hI.lc, hlj]) (by show G.U.length = j; rw [hI.lu, hlj]) (by show G.D.length = j; rw [hI.ld, hlj]) (by omega) h2 h3 h4 h1
  obtain ⟨G', ρ', H', i1, i2, i3, i4, i5⟩ := ih (j + 1) G1 ρ1 H1 (by omega) hjl h5 (by rw [k1, hGN, take_nth hjl]) (by rw [k2, hGE])
  exact ⟨G', ρ', H', .step hjl hlj hok i1, i2, i3, i4, by rw [i5, k3]⟩
theorem qrun_ex {K} {E0 : List (Nat × Nat)} (hlen : E0.length < 1000) : ∀ (d j : Nat) (G : GS) (ρ : Nat → Nat) (H : List Pr), E0.length - j = d → j ≤ E0.length → Inv G ρ [] H → (∀ e ∈ E0, e.1 < G.N.length ∧ e.2 < G.N.length) → G.E = E0.take j →
  ∃ G' ρ' H', QRun K E0 j G G' ∧ Inv G' ρ' [] H' ∧ G'.N = G.N ∧ G'.E = E0 ∧ G'.W = G.W := by
 intro d
 induction d with
 | zero =>
  intro j G ρ H hd hj hI hE hGE
  have : j = E0.length := by omega
  subst this
  exact ⟨G, ρ, H, .done, hI, rfl, by rw [hGE, List.take_length], rfl⟩
 | succ d ih =>
  intro j G ρ H hd hj hI hE hGE
  have hjl : j < E0.length := by omega
  have hlj : G.E.length = j := by rw [hGE, List.length_take]; omega
  obtain ⟨ha, hb⟩ := hE _ (nth_memE hjl)
  obtain ⟨G1, k, ρ1, H1, h1, h2, h3, _⟩ := equal_ex hI ha hb
  obtain ⟨k1, k2, k3, _, _⟩ := h3
  simp only at k1 k2 k3
  obtain ⟨G', ρ', H', i1, i2, i3, i4, i5⟩ := ih (j + 1) G1 ρ1 H1 (by omega) hjl h2 (by rw [k1]; exact hE) (by rw [k2, hGE, take_nth hjl])
  exact ⟨G', ρ', H', .step hjl (equal_ok ha hb (by omega) h1) i1, i2, by rw [i3, k1], i4, by rw [i5, k3]⟩
/-- Equations are taken back. -/
theorem back_play {K} {G : GS} {m n : Nat} (h : Play G m) (hm : m < 999) (hn : n ≤ G.E.length) : ∃ G', Ok (bs K) 26 [gR, nV n] (gObs G) (nV 0) (gObs G') [] ∧ Play G' m ∧ G'.N = G.N ∧ G'.E = G.E.take n := by
 obtain ⟨ρ, H, hI⟩ := h.ex
 have hnm := h.nm
 have hem := h.em
 obtain ⟨G1, ρ1, H1, b1, b2, b3, b4, b5⟩ := brun_ex (K := K) (by omega) hI.nf G.N.length 0 (resetG G) id [] (by omega) (Nat.zero_le _) (resetG_bare G).inv rfl rfl
 obtain ⟨G', ρ', H', q1, q2, q3, q4, q5⟩ := qrun_ex (K := K) (E0 := G.E.take n) (by rw [List.length_take]; omega) _ 0 G1 ρ1 H1 rfl (Nat.zero_le _) b2 (fun e he => by
  obtain ⟨g1, g2, _⟩ := hI.eb e (List.mem_of_mem_take he)
  rw [b3]; exact ⟨g1, g2⟩) (by rw [b4]; rfl)
 have hW : G'.W = G.W := by rw [q5, b5]; rfl
 have hN : G'.N = G.N := by rw [q3, b3]
 exact ⟨G', back_ok hn (by omega) (by omega) b1 q1, ⟨⟨ρ', H', q2⟩, by rw [hW, hN]; exact h.w1, by rw [hW, hN]; exact h.w2, by rw [hN]; exact h.ds, by rw [hN]; exact hnm, by rw [q4, List.length_take]; omega⟩, hN, q4⟩
theorem Play.told {G m} (h : Play G m) : ∃ c k, CRun G.N (eqAll (List.range G.N.length) G.E) c k ∧ Told G.N G.E c := by
 obtain ⟨ρ, H, hI⟩ := h.ex
 exact closed_ex (fun u hu => (hI.nf u hu).2.2) (fun e he => ⟨(hI.eb e he).1, (hI.eb e he).2.1⟩)
theorem Play.same {B G m c a b} (h : Play G m) (hc : Told G.N G.E c) (ha : a < G.N.length) (hb : b < G.N.length) : Ok B 21 [gR, nV a, nV b] (gObs G) (.tup [.bool (decide (nth c a = nth c b)), nV 0]) (gObs G) [] := by
 obtain ⟨ρ, H, hI⟩ := h.ex
 obtain ⟨k, hk⟩ := hI.rt a ha
 obtain ⟨l, hl⟩ := hI.rt b hb
 have : decide (nth c a = nth c b) = decide (ρ a = ρ b) := by
  rw [decide_eq_decide, hc.iff ha hb, hI.iff ha hb]
 rw [this]
 exact same_ok ha hb hk hl
theorem Play.closed {B G m c k} (h : Play G m) (hm : m < 999) (hc : CRun G.N (eqAll (List.range G.N.length) G.E) c k) : Ok B 15 [wV G.N G.E] [] (.sl 1 (.sub 0 0) G.N.length) [] [.cells true (c.map nV)] := by
 obtain ⟨ρ, H, hI⟩ := h.ex
 have := h.nm
 have := h.em
 exact closed_ok (by omega) (fun e he => ⟨(hI.eb e he).1, (hI.eb e he).2.1⟩) (by omega) (fun i hi => ⟨by have := (hI.nf i hi).2.1; omega, fun a ha => Nat.lt_trans ((hI.nf i hi).2.2 a ha) hi⟩) hc
/-- A call of a script. -/
theorem step_play {K} {G : GS} {m : Nat} {o : OpS} (h : Play G m) (hm : m < 999) (hf : o.f.length ≤ 140737488355328) (hl : o.args.length ≤ 20) :
  ∃ G', Ok (bs K) 29 [gR, wV2 G.N G.E, opV o] (gObs G) (.tup [wV2 G'.N G'.E, .bool true]) (gObs G') [] ∧ Play G' (m + 1) := by
 by_cases h0 : o.kind = 0
 ·obtain ⟨G', n, e, h1, h2, h3, _⟩ := node_play (K := K) (l := o.args) h hm hf (by omega)
  exact ⟨G', step_node h0 h2 h1, h3⟩
 by_cases h1 : o.kind = 1
 ·obtain ⟨G', n, e, g1, g2, g3, _⟩ := equal_play (K := K) (a := o.a) (b := o.b) h hm
  exact ⟨G', step_equal h1 g2 g1, g3⟩
 by_cases h2 : o.kind = 2
 ·by_cases hb : o.a < 0 ∨ (G.E.length : Int) < o.a
  ·exact ⟨G, step_back_bad h2 hb (back_bad hb), h.mono (by omega)⟩
  ·obtain ⟨n, hn⟩ := Int.eq_ofNat_of_zero_le (a := o.a) (by omega)
   have hnl : n ≤ G.E.length := by omega
   obtain ⟨G', g1, g2, g3, g4⟩ := back_play (K := K) h hm hnl
   exact ⟨G', by rw [g3, g4]; exact step_back h2 hn hnl g1, g2.mono (by omega)⟩
 ·exact ⟨G, step_none h0 h1 h2, h.mono (by omega)⟩
theorem gs0_play : Play gs0 0 :=
 { ex := ⟨id, [], Bare.inv ⟨rfl, rfl, rfl, rfl, rfl, rfl, rfl⟩⟩
   w1 := fun q hq => (by cases hq)
   w2 := fun i hi => (by cases hi)
   ds := fun i j hi => (by cases hi)
   nm := Nat.le_refl _
   em := Nat.le_refl _ }
theorem prun_ex {K} {sc : List OpS} (hf : ∀ o ∈ sc, o.f.length ≤ 140737488355328) : ∀ (d j : Nat) (G : GS), 60 - j = d → j ≤ 60 → Play G j → ∃ G', PRun (bs K) sc j G G.N G.E G' G'.N G'.E ∧ Play G' 60 := by
 intro d
 induction d with
 | zero =>
  intro j G hd hj h
  have : j = 60 := by omega
  subst this
  exact ⟨G, .done (.inr (Nat.le_refl _)), h⟩
 | succ d ih =>
  intro j G hd hj60 h
  have hj : j < 60 := by omega
  by_cases hjl : j < sc.length
  ·by_cases ha : 20 < (nth sc j).args.length
   ·obtain ⟨G', h1, h2⟩ := ih (j + 1) G (by omega) (by omega) (h.mono (by omega))
    exact ⟨G', .skip hjl hj ha h1, h2⟩
   ·obtain ⟨G1, s1, s2⟩ := step_play (K := K) (o := nth sc j) h (by omega) (hf _ (nth_mem hjl)) (by omega)
    obtain ⟨G', h1, h2⟩ := ih (j + 1) G1 (by omega) (by omega) s2
    exact ⟨G', .step hjl hj ha s1 h1, h2⟩
  ·exact ⟨G, .done (.inl (by omega)), h.mono (by omega)⟩
end Go.Proofs.YtjabgfnljbnmmaaDoor
