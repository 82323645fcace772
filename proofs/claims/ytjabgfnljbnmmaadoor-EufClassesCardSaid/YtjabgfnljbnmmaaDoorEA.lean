/- A part of the proof of a law of this seat: no condition. -/
import Derived.Test.YtjabgfnljbnmmaaDoorRows
import Derived.Test.YtjabgfnljbnmmaaDoorD3
import Derived.WalkKit
import Derived.ProofKit
import Derived.OpenShut
import Derived.ShutString
import Derived.ChangeOld
import Derived.Below
import Derived.SizedLaws
import Derived.HandedShaped
import Derived.Carry
import Derived.Deep.Slices
set_option linter.unusedVariables false
set_option linter.unusedSimpArgs false
set_option maxRecDepth 100000
set_option maxHeartbeats 4000000
namespace Go.Proofs.YtjabgfnljbnmmaaDoor
open Go.Ax
open Go.ChangeShapes Go.WideShapes Go.RowKit Go.Deep
theorem repRow_of {H : Heap} {sz b : Nat} : ∀ (l : List V) (off : Nat), (∀ i (hi : i < l.length), ∃ vs : List Value, vs.length = sz ∧ RepL H (l[i]).cells vs ∧ ∀ j (hj : j < vs.length), H b (off + i * sz + j) = some vs[j]) → RepRow H sz b off l
 | [], off, _ => .nil _ _ _
 | x :: l, off, h => by
  obtain ⟨vs, h1, h2, h3⟩ := h 0 (by simp)
  refine .cons _ _ _ _ _ vs h1 h2 (fun j hj => by have := h3 j hj; simpa using this) (repRow_of l (off + sz) fun i hi => ?_)
  obtain ⟨us, g1, g2, g3⟩ := h (i + 1) (by simpa using hi)
  refine ⟨us, g1, by simpa using g2, fun j hj => ?_⟩
  have := g3 j hj
  rw [show off + (i + 1) * sz + j = off + sz + i * sz + j by rw [Nat.add_mul]; omega] at this
  exact this
theorem add_plain2 (b o j : Nat) : (⟨b, o, none⟩ : Addr).add j = ⟨b, o + j, none⟩ := by
 unfold Addr.add
 split
 ·rename_i h; subst h; rfl
 ·rfl
theorem cells3 : Tryd.prog.cellsOf 3 = 1 := by kernel_rfl
theorem cells9 : Tryd.prog.cellsOf 9 = 1 := by kernel_rfl
theorem cells31 : Tryd.prog.cellsOf 31 = 1 := by kernel_rfl
theorem cells49 : Tryd.prog.cellsOf 49 = 5 := by kernel_rfl
section
variable {H : Type} {enc : TypeId × Value → H} {W : World}
/-- A slice of numbers, opened. -/
theorem open_nums {fuel : Nat} {cs : List Value} {x : DataW H × List MemPlace} (h : DataW.trod enc Tryd.prog W 0 (fun _ => true) true fuel 31 cs = some x) :
  ∃ (l : List Int) (v : Value), cs = [v] ∧ RepD (worldH W) (.slice 1 (l.map iV)) v := by
 rcases open_ints Tryd.underlying31 Tryd.underlying3 cells3 h with ⟨rfl, _⟩ | ⟨a, len, cap, zs, rfl, _, hl, hm, hz, _, hc, _⟩
 ·exact ⟨[], _, rfl, .slice0 _⟩
 ·simp only [if_true] at hz
  by_cases h0 : cap = 0
  ·subst h0
   have : len = 0 := by omega
   subst this
   exact ⟨[], _, rfl, .slice1 _ _⟩
  ·have hsp : a.spot = none := by
    have := World.cell?_spot (hc 0 (by omega))
    simpa [Addr.add] using this
   obtain ⟨b, off, sp⟩ := a
   simp only at hsp
   subst hsp
   have e : (zs.take len).length = len := by rw [List.length_take]; omega
   refine ⟨zs.take len, _, rfl, ?_⟩
   have := RepD.slice (H := worldH W) 1 ((zs.take len).map iV) b off cap (repRow_of _ _ fun i hi => ?_) (by simp; omega)
   ·rw [List.length_map, e] at this; exact this
   ·simp at hi
    have hg := hc i (by omega)
    rw [add_plain2] at hg
    refine ⟨[.int .i64 ((zs.take len)[i]'(by omega))], rfl, ?_, fun j hj => ?_⟩
    ·simp only [List.getElem_map]
     exact .cons _ _ _ _ rfl (.int _ _) .nil
    ·simp at hj
     subst hj
     simp only [List.getElem_cons_zero, List.getElem_take]
     show W.cell? ⟨b, off + i * 1 + 0, none⟩ = _
     rw [Nat.mul_one, Nat.add_zero, hg]
     simp [List.getD, List.getElem?_eq_getElem (show i < zs.length by omega)]
theorem open_op {fuel : Nat} {cs : List Value} {x : DataW H × List MemPlace} (h : DataW.trod enc Tryd.prog W 0 (fun _ => true) true fuel 49 cs = some x) :
  ∃ o : OpS, RepL (worldH W) (opC o) cs ∧ cs.length = 5 ∧ ∃ ds : List (DataW H), x.1 = .agg ds ∧ ds[1]? = some (.lit (.string o.f)) := by
 obtain ⟨xs, n, _, hx, hlen, hxs, hf⟩ := DataW.trod_struct Tryd.underlying49 h
 rw [cells49] at hlen
 match cs, hlen with
 | [v0, v1, v2, v3, v4], _ =>
  have f0 : DataW.trod enc Tryd.prog W 0 (fun _ => true) true n 3 (([v0, v1, v2, v3, v4].drop 0).take (Tryd.prog.cellsOf 3)) = xs[0]? := hf 0 _ rfl
  rw [cells3] at f0
  simp only [List.drop, List.take] at f0
  have f1 : DataW.trod enc Tryd.prog W 0 (fun _ => true) true n 9 (([v0, v1, v2, v3, v4].drop 1).take (Tryd.prog.cellsOf 9)) = xs[1]? := hf 1 _ rfl
  rw [cells9] at f1
  simp only [List.drop, List.take] at f1
  have f2 : DataW.trod enc Tryd.prog W 0 (fun _ => true) true n 31 (([v0, v1, v2, v3, v4].drop 2).take (Tryd.prog.cellsOf 31)) = xs[2]? := hf 2 _ rfl
  rw [cells31] at f2
  simp only [List.drop, List.take] at f2
  have f3 : DataW.trod enc Tryd.prog W 0 (fun _ => true) true n 3 (([v0, v1, v2, v3, v4].drop 3).take (Tryd.prog.cellsOf 3)) = xs[3]? := hf 3 _ rfl
  rw [cells3] at f3
  simp only [List.drop, List.take] at f3
  have f4 : DataW.trod enc Tryd.prog W 0 (fun _ => true) true n 3 (([v0, v1, v2, v3, v4].drop 4).take (Tryd.prog.cellsOf 3)) = xs[4]? := hf 4 _ rfl
  rw [cells3] at f4
  simp only [List.drop, List.take] at f4
  have hs : xs.length = 5 := hxs
  obtain ⟨y0, e0⟩ : ∃ y, xs[0]? = some y := ⟨_, List.getElem?_eq_getElem (by omega)⟩
  obtain ⟨y1, e1⟩ : ∃ y, xs[1]? = some y := ⟨_, List.getElem?_eq_getElem (by omega)⟩
  obtain ⟨y2, e2⟩ : ∃ y, xs[2]? = some y := ⟨_, List.getElem?_eq_getElem (by omega)⟩
  obtain ⟨y3, e3⟩ : ∃ y, xs[3]? = some y := ⟨_, List.getElem?_eq_getElem (by omega)⟩
  obtain ⟨y4, e4⟩ : ∃ y, xs[4]? = some y := ⟨_, List.getElem?_eq_getElem (by omega)⟩
  rw [e0] at f0; rw [e1] at f1; rw [e2] at f2; rw [e3] at f3; rw [e4] at f4
  obtain ⟨k, c0, _, _⟩ := DataW.trod_int Tryd.underlying3 f0
  obtain ⟨s, c1, d1, _⟩ := DataW.trod_string Tryd.underlying9 f1
  obtain ⟨l, v2', c2, r2⟩ := open_nums f2
  obtain ⟨a, c3, _, _⟩ := DataW.trod_int Tryd.underlying3 f3
  obtain ⟨b, c4, _, _⟩ := DataW.trod_int Tryd.underlying3 f4
  injection c0 with c0; injection c1 with c1; injection c2 with c2; injection c3 with c3; injection c4 with c4
  subst c0 c1 c2 c3 c4
  refine ⟨⟨k, s.data.toList, l, a, b⟩, ?_, rfl, xs.map (·.1), by rw [hx], by rw [List.getElem?_map, e1, d1]; rfl⟩
  refine .cons _ _ _ _ rfl (.int _ _) (.cons _ _ _ _ rfl ?_ (.cons _ _ _ _ rfl r2 (.cons _ _ _ _ rfl (.int _ _) (.cons _ _ _ _ rfl (.int _ _) .nil))))
  have := RepD.str (H := worldH W) s.data.toList
  simpa using this
theorem open_ops {v : Value} {d : DataW H} {p : List MemPlace} {base : Nat} (hval : Value.okWide Tryd.prog W .any base 22 v) (h : DataW.Trod enc Tryd.prog W 0 (fun _ => true) true 22 v d p) (hsz : ∀ n ∈ d.weights Tryd.prog 22, n ≤ reachBytes) :
  ∃ sc : List OpS, (∀ o ∈ sc, o.f.length ≤ 140737488355328) ∧ RepD (worldH W) (.slice 5 (sc.map opV)) v := by
 obtain ⟨a0, len0, cap0, rfl⟩ := okWide_slice Tryd.underlying22 hval
 obtain ⟨fuel, hf⟩ := h
 rcases open_slice Tryd.underlying22 hf with ⟨hcs, hx⟩ | ⟨a, len, cap, m, n, D, Pl, hcs, hb, hl, hm, hmm, hx, hel⟩
 ·have : Value.slice a0 len0 cap0 = .slice none 0 0 := by simpa [Value.cells] using hcs
  rw [this]
  exact ⟨[], fun o ho => (by cases ho), .slice0 _⟩
 ·have hv : Value.slice a0 len0 cap0 = .slice (some a) len cap := by simpa [Value.cells] using hcs
  rw [hv]
  simp only [if_true] at hmm
  subst hmm
  by_cases h0 : m = 0
  ·subst h0
   have : len = 0 := by omega
   subst this
   exact ⟨[], fun o ho => (by cases ho), .slice1 _ _⟩
  ·have each : ∀ i, i < m → ∃ o : OpS, (∃ vs : List Value, vs.length = 5 ∧ RepL (worldH W) (opC o) vs ∧ ∀ j (hj : j < vs.length), W.cell? (a.add (i * 5 + j)) = some vs[j]) ∧ ∃ ds : List (DataW H), D i = .agg ds ∧ ds[1]? = some (.lit (.string o.f)) := by
    intro i hi
    obtain ⟨cs', h1, h2⟩ := hel i hi
    rw [cells49] at h1
    obtain ⟨_, hlen, hcell⟩ := World.cells?_some h1
    obtain ⟨o, o1, o2, ds, o3, o4⟩ := open_op h2
    refine ⟨o, ⟨cs', o2, o1, fun j hj => ?_⟩, ds, o3, o4⟩
    have := hcell j (by omega)
    rw [← List.getElem?_eq_getElem hj, ← this]
    congr 1
    unfold Addr.add
    by_cases hi0 : i * 5 = 0
    ·rw [if_pos hi0, hi0, Nat.zero_add]
    ·rw [if_neg hi0, if_neg (by omega)]
     by_cases hj0 : j = 0
     ·rw [if_pos hj0, hj0]; rfl
     ·rw [if_neg hj0]; simp; omega
   have hsp : a.spot = none := by
    obtain ⟨o, ⟨vs, h1, _, h3⟩, _⟩ := each 0 (by omega)
    have := World.cell?_spot (h3 0 (by omega))
    simpa [Addr.add] using this
   obtain ⟨b, off, sp⟩ := a
   simp only at hsp
   subst hsp
   obtain ⟨f, hfn⟩ := choose_lt (α := OpS) each
   refine ⟨(List.range len).map f, fun o ho => ?_, ?_⟩
   ·obtain ⟨i, hi, rfl⟩ := List.mem_map.1 ho
    have hi := List.mem_range.1 hi
    obtain ⟨_, ds, e1, e2⟩ := hfn i (by omega)
    have hd : d = .slice ((List.range len).map D) ((List.range (m - len)).map fun j => D (len + j)) := by
     have := congrArg Prod.fst hx; simpa using this
    have hmem : (f i).f.length ∈ d.weights Tryd.prog 22 := by
     rw [hd]
     simp only [DataW.weights, Tryd.underlying22]
     refine List.mem_cons_of_mem _ (List.mem_append_left _ ?_)
     have hw : ∀ (l : List (DataW H)) (y : DataW H), y ∈ l → ∀ n ∈ y.weights Tryd.prog 49, n ∈ DataW.weightsAll Tryd.prog 49 l := fun l y hy n hn => by
      induction l with
      | nil => cases hy
      | cons z l ih =>
       simp only [DataW.weightsAll]
       rcases List.mem_cons.1 hy with e | e
       ·subst e; exact List.mem_append_left _ hn
       ·exact List.mem_append_right _ (ih e)
     refine hw _ (D i) (List.mem_map.2 ⟨i, List.mem_range.2 hi, rfl⟩) _ ?_
     rw [e1]
     simp only [DataW.weights, Tryd.underlying49]
     match ds, e2 with
     | d0 :: d1 :: r, e2 =>
      simp at e2
      subst e2
      simp [DataW.weightsEach, DataW.weights]
    have := hsz _ hmem
    have h2 : reachBytes = 140737488351232 := rfl
    omega
   ·have := RepD.slice (H := worldH W) 5 (((List.range len).map f).map opV) b off m (repRow_of _ _ fun i hi => ?_) (by simp; omega)
    ·rw [List.length_map, List.length_map, List.length_range] at this; exact this
    ·simp at hi
     obtain ⟨⟨vs, g1, g2, g3⟩, _⟩ := hfn i (by omega)
     have e : (((List.range len).map f).map opV)[i]'(by simpa using hi) = opV (f i) := by rw [List.getElem_map, List.getElem_map, List.getElem_range]
     refine ⟨vs, g1, by rw [e]; exact g2, fun j hj => ?_⟩
     have := g3 j hj
     rw [add_plain2] at this
     show W.cell? ⟨b, off + i * 5 + j, none⟩ = _
     rw [Nat.add_assoc]; exact this
end
end Go.Proofs.YtjabgfnljbnmmaaDoor
