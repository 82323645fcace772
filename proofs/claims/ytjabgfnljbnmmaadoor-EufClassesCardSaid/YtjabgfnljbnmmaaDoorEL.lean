/- A part of the proof of a law of this seat: no condition. -/
import Derived.Shelf.LaysM
import Derived.Shelf.Strconv.Itoa3
import Derived.Shelf.Lays2
import Derived.Shelf.Slices.Clone
import Derived.Test.YtjabgfnljbnmmaaDoorEufC
import Derived.Test.YtjabgfnljbnmmaaDoorA9
import Derived.Lib.ItoaLen
import Derived.Lib.ItoaMem
set_option linter.unusedSimpArgs false
set_option linter.unusedVariables false
namespace Go.Proofs
open Go.Shelf
def Tryd.lays171_ren : Go.Shelf.Ren := ⟨fun | 171 => 46 | 243 => 52 | 246 => 64 | 283 => 71 | 284 => 72 | 285 => 73 | 286 => 74 | 129 => 63 | 317 => 76 | 318 => 77 | 319 => 78 | 320 => 79 | 337 => 80 | 338 => 81 | n => n, fun | 3 => 3 | 9 => 9 | 2 => 2 | 4 => 4 | 171 => 123 | 0 => 0 | 53 => 114 | 37 => 125 | 5 => 5 | 173 => 126 | 212 => 132 | 51 => 112 | 20 => 20 | 213 => 133 | 46 => 102 | 232 => 134 | 233 => 135 | n => n, fun | 17 => 0 | 18 => 1 | 19 => 2 | n => n⟩
theorem Tryd.lays171 : Go.Proofs.LaysM.n171 Tryd.prog Tryd.lays171_ren where
 mixed := by kernel_rfl
 f129 := Tryd.func63.trans (congrArg some (by kernel_rfl))
 f171 := Tryd.func46.trans (congrArg some (by kernel_rfl))
 f243 := Tryd.func52.trans (congrArg some (by kernel_rfl))
 f246 := Tryd.func64.trans (congrArg some (by kernel_rfl))
 f283 := Tryd.func71.trans (congrArg some (by kernel_rfl))
 f284 := Tryd.func72.trans (congrArg some (by kernel_rfl))
 f285 := Tryd.func73.trans (congrArg some (by kernel_rfl))
 f286 := Tryd.func74.trans (congrArg some (by kernel_rfl))
 f317 := Tryd.func76.trans (congrArg some (by kernel_rfl))
 f318 := Tryd.func77.trans (congrArg some (by kernel_rfl))
 f319 := Tryd.func78.trans (congrArg some (by kernel_rfl))
 f320 := Tryd.func79.trans (congrArg some (by kernel_rfl))
 f337 := Tryd.func80.trans (congrArg some (by kernel_rfl))
 f338 := Tryd.func81.trans (congrArg some (by kernel_rfl))
 t0 := Tryd.underlying0
 a0 := Tryd.isAgg0
 z0 := Tryd.sizeOf0
 v0 := Tryd.zeroValue0
 t2 := Tryd.underlying2
 a2 := Tryd.isAgg2
 z2 := Tryd.sizeOf2
 v2 := Tryd.zeroValue2
 t3 := Tryd.underlying3
 a3 := Tryd.isAgg3
 z3 := Tryd.sizeOf3
 v3 := Tryd.zeroValue3
 t4 := Tryd.underlying4
 a4 := Tryd.isAgg4
 z4 := Tryd.sizeOf4
 v4 := Tryd.zeroValue4
 t5 := Tryd.underlying5
 a5 := Tryd.isAgg5
 z5 := Tryd.sizeOf5
 v5 := Tryd.zeroValue5
 t9 := Tryd.underlying9
 a9 := Tryd.isAgg9
 z9 := Tryd.sizeOf9
 v9 := Tryd.zeroValue9
 t20 := Tryd.underlying20
 a20 := Tryd.isAgg20
 z20 := Tryd.sizeOf20
 v20 := Tryd.zeroValue20
 t37 := Tryd.underlying125
 a37 := Tryd.isAgg125
 z37 := Tryd.sizeOf125
 v37 := Tryd.zeroValue125
 t46 := Tryd.underlying102
 a46 := Tryd.isAgg102
 z46 := Tryd.sizeOf102
 v46 := Tryd.zeroValue102
 t51 := Tryd.underlying112
 a51 := Tryd.isAgg112
 z51 := Tryd.sizeOf112
 v51 := Tryd.zeroValue112
 t53 := Tryd.underlying114
 a53 := Tryd.isAgg114
 z53 := Tryd.sizeOf114
 v53 := Tryd.zeroValue114
 t171 := Tryd.underlying123
 a171 := Tryd.isAgg123
 z171 := Tryd.sizeOf123
 v171 := Tryd.zeroValue123
 t173 := Tryd.underlying126
 a173 := Tryd.isAgg126
 z173 := Tryd.sizeOf126
 v173 := Tryd.zeroValue126
 t212 := Tryd.underlying132
 a212 := Tryd.isAgg132
 z212 := Tryd.sizeOf132
 v212 := Tryd.zeroValue132
 t213 := Tryd.underlying133
 a213 := Tryd.isAgg133
 z213 := Tryd.sizeOf133
 t232 := Tryd.underlying134
 a232 := Tryd.isAgg134
 z232 := Tryd.sizeOf134
 v232 := Tryd.zeroValue134
 t233 := Tryd.underlying135
 a233 := Tryd.isAgg135
 z233 := Tryd.sizeOf135
 v233 := Tryd.zeroValue135
 g17 := by kernel_rfl
 g18 := by kernel_rfl
 g19 := by kernel_rfl
 i0 := by kernel_rfl
 i2 := by kernel_rfl
 i3 := by kernel_rfl
 i4 := by kernel_rfl
 i5 := by kernel_rfl
 i9 := by kernel_rfl
 i20 := by kernel_rfl
 i37 := by kernel_rfl
 i46 := by kernel_rfl
 i51 := by kernel_rfl
 i53 := by kernel_rfl
 i171 := by kernel_rfl
 i173 := by kernel_rfl
 i212 := by kernel_rfl
 i232 := by kernel_rfl
 i233 := by kernel_rfl
 m17 := by kernel_rfl
 m18 := by kernel_rfl
 m19 := by kernel_rfl

def Tryd.lays15_ren : Go.Shelf.Ren := ⟨fun | 15 => 35 | n => n, fun | 22 => 31 | 3 => 3 | 4 => 4 | n => n, fun | n => n⟩
theorem Tryd.lays15 : Go.Proofs.Lays2.n15 Tryd.prog Tryd.lays15_ren where
 mixed := by kernel_rfl
 f15 := Tryd.func35.trans (congrArg some (by kernel_rfl))
 t3 := Tryd.underlying3
 a3 := Tryd.isAgg3
 z3 := Tryd.sizeOf3
 v3 := Tryd.zeroValue3
 t4 := Tryd.underlying4
 a4 := Tryd.isAgg4
 z4 := Tryd.sizeOf4
 v4 := Tryd.zeroValue4
 t22 := Tryd.underlying31
 a22 := Tryd.isAgg31
 z22 := Tryd.sizeOf31
 v22 := Tryd.zeroValue31
 i3 := by kernel_rfl

end Go.Proofs
namespace Go.Proofs.YtjabgfnljbnmmaaDoor
open Go.Ax Go.RowKit
/-- The table of powers, as the world has it. -/
def powObj (K : TypeId × Nat × Nat) : Obj := .cells (Lib.pow10Tab.map fun z => Value.int .u64 z).toArray K.1 K.2
def bs (K : TypeId × Nat × Nat) : Heap := ⟨fun _ _ => none, fun _ => 0, fun b => if b = 0 then some (powObj K) else none⟩
theorem tab_of {K : TypeId × Nat × Nat} {w : World} (h : ∀ b o, (bs K).blk b = some o → w.heap[b]? = some o) : Lib.TabIs Tryd.prog w "internal/strconv.uint64pow10" .u64 Lib.pow10Tab := by
 have h0 := h 0 _ rfl
 unfold Lib.TabIs World.var?
 have hg : Tryd.prog.globalNamed "internal/strconv.uint64pow10" = some 0 := by kernel_rfl
 rw [hg, Option.bind_some, h0]
 rfl
def itoa (n : Nat) : List UInt8 := Lib.itoa n
def sp46 : Sp
 | [.int .i64 n], [] => if 0 ≤ n ∧ n ≤ 9223372036854775807 then some (.str (itoa n.toNat), [], []) else none
 | _, _ => none
theorem fn46 {K} : FnOk Tryd.prog (bs K) 46 sp46 := by
 intro args objs r objs' news h
 unfold sp46 at h
 split at h
 ·rename_i n
  split at h
  ·rename_i hn
   cases h
   refine callOk_grow Tryd.call46 rfl fun H μ w us hu hb => ?_
   obtain ⟨x, rfl, hx⟩ := repArgs1 hu
   rw [hx.int]
   refine (Any.strconv_Itoa Tryd.lays171 n (by omega) hn.2 w (tab_of hb)).mono ?_
   rintro e w' ⟨rfl, k, os, rfl⟩
   refine ⟨_, rfl, fun H' μ' => ?_, ?_⟩
   ·have e : itoa n.toNat = Lib.itoa n := by unfold itoa; rw [Int.toNat_of_nonneg hn.1]
    rw [e]
    exact .two _ _ (.one _ _ (.data _ _ (.str _)))
   ·refine ⟨rfl, rfl, rfl, by simp [Sort.grow, World.drewN], fun i hi => ?_⟩
    simp only [Sort.grow, World.drewN]
    rw [Array.getElem?_append_left hi]
  ·cases h
 ·cases h
theorem clone0 {B : Heap} : Ok B 35 [.slice 1 []] [] (.slice 1 []) [] [] := by
 refine callOk_grow Tryd.call35 rfl fun H μ w us hu hb => ?_
 obtain ⟨x, rfl, hx⟩ := repArgs1 hu
 have hx' : x = .slice none 0 0 ∨ ∃ a c, x = .slice (some a) 0 c := by
  cases hx with
  | two _ _ h => cases h with | one _ _ h => cases h with | data _ _ h => cases h with
   | slice0 => exact .inl rfl
   | slice1 _ a => exact .inr ⟨a, 0, rfl⟩
   | slice _ _ b off c hr hc => exact .inr ⟨⟨b, off, none⟩, c, rfl⟩
 rcases hx' with rfl | ⟨a, c, rfl⟩
 ·refine (Any.slices_Clone_int_nil Tryd.lays15 0 0 w).mono ?_
  rintro e w' ⟨rfl, rfl⟩
  exact ⟨_, rfl, fun H' μ' => .two _ _ (.one _ _ (.data _ _ (.slice0 _))), Below.refl _ _⟩
 ·refine (Any.slices_Clone_int_zero Tryd.lays15 a c w).mono ?_
  rintro e w' ⟨v', rfl, h1, h2, h3⟩
  refine ⟨_, rfl, fun H' μ' => ?_, h3⟩
  rcases h1.2 with ⟨rfl, _⟩ | ⟨g, cap, cur, rfl, _⟩
  ·exact .two _ _ (.one _ _ (.data _ _ (.slice0 _)))
  ·exact .two _ _ (.one _ _ (.data _ _ (.slice _ _ _ _ _ (.nil _ _ _) (Nat.zero_le _))))
end Go.Proofs.YtjabgfnljbnmmaaDoor
set_option linter.unusedSimpArgs false
set_option linter.unusedVariables false
namespace Go.Proofs.YtjabgfnljbnmmaaDoor
open Go.Ax
abbrev nV (n : Nat) : V := .int .i64 n
structure Nd where
 f : List UInt8
 a : List Nat
 deriving Inhabited, DecidableEq
structure Ed where
 to : Nat
 why : Int
 some : Bool
 deriving Inhabited
/-- A graph, as its object holds it. -/
structure GS where
 N : List Nd
 bw : Nat
 W : List (List UInt8 × Nat)
 E : List (Nat × Nat)
 P : List Nat
 C : List (List Nat)
 U : List (List Nat)
 bs : Nat
 S : List (List UInt8 × Nat)
 D : List Ed
abbrev ndV (x : Nd) : V := .agg [.str x.f, .slice 1 (x.a.map nV)]
abbrev prV (p : Nat × Nat) : V := .agg [nV p.1, nV p.2]
abbrev rowV (l : List Nat) : V := .own 1 (l.map nV)
abbrev kvV (p : List UInt8 × Nat) : V × V := (.str p.1, nV p.2)
abbrev edC (e : Ed) : List V := [nV e.to, .int .i64 e.why, .bool e.some]
abbrev gObs (G : GS) : List Ob :=
 [.cells false [.own 2 (G.N.map ndV), .mp (.par 1), .own 2 (G.E.map prV), .sl 1 (.par 2) G.P.length, .sl 1 (.par 3) G.C.length, .sl 1 (.par 4) G.U.length, .mp (.par 5), .sl 3 (.par 6) G.D.length],
  .map G.bw (G.W.map kvV), .cells true (G.P.map nV), .cells true (G.C.map rowV), .cells true (G.U.map rowV), .map G.bs (G.S.map kvV), .cells true (G.D.flatMap edC)]
/-- The graph's objects inside a function. -/
abbrev gIn (G : GS) : List (Oid × Ob) :=
 [(.par 0, .cells false [.own 2 (G.N.map ndV), .mp (.par 1), .own 2 (G.E.map prV), .sl 1 (.alt (.par 2)) G.P.length, .sl 1 (.alt (.par 3)) G.C.length, .sl 1 (.alt (.par 4)) G.U.length, .mp (.par 5), .sl 3 (.alt (.par 6)) G.D.length]),
  (.par 1, .map G.bw (G.W.map kvV)), (.alt (.par 2), .cells true (G.P.map nV)), (.alt (.par 3), .cells true (G.C.map rowV)), (.alt (.par 4), .cells true (G.U.map rowV)), (.par 5, .map G.bs (G.S.map kvV)), (.alt (.par 6), .cells true (G.D.flatMap edC))]
abbrev gR : V := .ref (.par 0) 0
@[simp high] theorem getElem?_mapn {α : Type} [Inhabited α] {l : List α} {f : α → V} {n : Nat} (h : n < l.length) : (l.map f)[n]? = some (f (nth l n)) := by simp [nth, h]
theorem flat3_get {l : List Ed} {n : Nat} (h : n < l.length) (k : Nat) (hk : k < 3) : (l.flatMap edC)[n * 3 + k]? = (edC (nth l n))[k]? := by
 induction l generalizing n with
 | nil => simp at h
 | cons x l ih =>
  cases n with
  | zero => rw [List.flatMap_cons, List.getElem?_append_left (by simp; omega)]; simp [nth]
  | succ n =>
   rw [List.flatMap_cons, List.getElem?_append_right (by simp; omega)]
   have e : (n + 1) * 3 + k - (edC x).length = n * 3 + k := by simp; omega
   rw [e, ih (by simpa using h)]
   simp [nth]
@[simp high] theorem flat3_len (l : List Ed) : (l.flatMap edC).length = l.length * 3 := by
 induction l with
 | nil => rfl
 | cons x l ih => rw [List.flatMap_cons, List.length_append, ih]; simp; omega
@[simp high] theorem ed_to {l : List Ed} {n : Nat} (h : n < l.length) : (l.flatMap edC)[n * 3]? = some (nV (nth l n).to) := flat3_get h 0 (by omega)
@[simp high] theorem ed_some {l : List Ed} {n : Nat} (h : n < l.length) : (l.flatMap edC)[n * 3 + 2]? = some (.bool (nth l n).some) := flat3_get h 2 (by omega)
@[simp high] theorem flat3_take {l : List Ed} {n : Nat} (h : n < l.length) : ((l.flatMap edC).drop (n * 3)).take 3 = edC (nth l n) := by
 apply List.ext_getElem?
 intro i
 rw [List.getElem?_take]
 split
 ·rename_i hi
  rw [List.getElem?_drop, flat3_get h i hi]
 ·rename_i hi
  rw [List.getElem?_eq_none (by simp; omega)]
@[simp] theorem noOwn_nil : noOwn [] = true := rfl
@[simp] theorem noOwn_cons (x : V) (l : List V) : noOwn (x :: l) = (!x.isOwn && noOwn l) := rfl
@[simp] theorem rowOk_nil : rowOk [] = true := rfl
@[simp] theorem rowOk_cons (x : V) (l : List V) : rowOk (x :: l) = (x.pure1 && rowOk l) := rfl
theorem flat1 {α : Type} (f : α → V) (h : ∀ x, (f x).cells = [f x]) (l : List α) : (l.map f).flatMap V.cells = l.map f := by
 induction l with
 | nil => rfl
 | cons x l ih => rw [List.map_cons, List.flatMap_cons, ih, h]; rfl
abbrev iV (n : Int) : V := .int .i64 n
@[simp high] theorem flat_nV (l : List Nat) : (l.map nV).flatMap V.cells = l.map nV := flat1 _ (fun _ => rfl) l
inductive Rt (P : List Nat) : Nat → Nat → Nat → Prop
 | stop {a} (h : a < P.length) (e : nth P a = a) : Rt P a a 0
 | step {a r k} (h : a < P.length) (e : nth P a ≠ a) (hs : Rt P (nth P a) r k) : Rt P a r (k + 1)
theorem Rt.lt {P a r k} (h : Rt P a r k) : a < P.length := by cases h <;> assumption
/-- A term, or a signature, as it is written. -/
def keyL (f : List UInt8) (xs : List Nat) : List UInt8 := itoa f.length ++ 58 :: f ++ xs.flatMap fun a => 44 :: itoa a
theorem itoa_len {n : Nat} (h : n ≤ 9223372036854775807) : (itoa n).length ≤ 21 := Lib.itoa_length_le _ (by omega) (by omega)
theorem keyL_len {f : List UInt8} {xs : List Nat} (hf : f.length ≤ 140737488355328) (ha : ∀ a ∈ xs, a ≤ 9223372036854775807) : (keyL f xs).length ≤ 140737488355400 + 22 * xs.length := by
 have h1 := itoa_len (n := f.length) (by omega)
 have h2 : (xs.flatMap fun a => 44 :: itoa a).length ≤ 22 * xs.length := by
  clear h1
  induction xs with
  | nil => simp
  | cons a xs ih =>
   have := itoa_len (ha a (by simp))
   have := ih (fun x hx => ha x (by simp [hx]))
   simp only [List.flatMap_cons, List.length_append, List.length_cons]
   omega
 simp only [keyL, List.length_append, List.length_cons]
 omega
theorem keyL_nil (f : List UInt8) : keyL f [] = itoa f.length ++ 58 :: f := by simp [keyL]
theorem take_nth {α : Type} [Inhabited α] {l : List α} {j : Nat} (h : j < l.length) : l.take (j + 1) = l.take j ++ [nth l j] := by
 rw [List.take_add_one]; simp [nth, h]
theorem keyL_step {f : List UInt8} {xs : List Nat} {j : Nat} (h : j < xs.length) : keyL f (xs.take (j + 1)) = keyL f (xs.take j) ++ 44 :: itoa (nth xs j) := by
 have e : xs.take (j + 1) = xs.take j ++ [nth xs j] := take_nth h
 simp [keyL, e]
theorem nth_mem {α : Type} [Inhabited α] {l : List α} {n : Nat} (h : n < l.length) : nth l n ∈ l := by
 simp [nth, h]
@[simp] theorem map_set_nV (l : List Nat) (i x : Nat) : (l.map nV).set i (.int .i64 x) = (l.set i x).map nV := by rw [List.map_set]
@[simp] theorem map_set_row2 (U : List (List Nat)) (i : Nat) (l m : List Nat) : (U.map rowV).set i (.own 1 (l.map nV ++ m.map nV)) = (U.set i (l ++ m)).map rowV := by rw [List.map_set]; show _ = (List.map rowV U).set i (V.own 1 ((l ++ m).map nV)); rw [List.map_append]
@[simp] theorem map_set_row1 (U : List (List Nat)) (i x : Nat) (l : List Nat) : (U.map rowV).set i (.own 1 (l.map nV ++ [.int .i64 x])) = (U.set i (l ++ [x])).map rowV := by rw [List.map_set]; show _ = (List.map rowV U).set i (V.own 1 ((l ++ [x]).map nV)); rw [List.map_append]; rfl
@[simp] theorem map_set_row0 (U : List (List Nat)) (i : Nat) : (U.map rowV).set i (.own 1 []) = (U.set i []).map rowV := by rw [List.map_set]; rfl
/-- What a map holds at a key. -/
def lk (S : List (List UInt8 × Nat)) (s : List UInt8) : Option Nat := (S.find? fun p => decide (p.1 = s)).map (·.2)
theorem find_none {s : List UInt8} : ∀ {S : List (List UInt8 × Nat)} {i : Nat}, lk S s = none → findS 4 (.str s) (S.map kvV) i = some none
 | [], i, _ => rfl
 | p :: S, i, h => by
  simp only [lk, List.find?_cons] at h
  by_cases e : p.1 = s
  ·simp [e] at h
  ·simp [e] at h
   have ih := find_none (S := S) (i := i + 1) (by simp [lk]; exact h)
   have hk : eqKey 4 (.str s) (.str p.1) = some false := by
    show some (s == p.1) = _
    have : ¬ s = p.1 := fun e' => e e'.symm
    simp [this]
   simp only [List.map_cons, findS, hk, ih]
theorem find_some {s : List UInt8} {v : Nat} : ∀ {S : List (List UInt8 × Nat)} {i : Nat}, lk S s = some v → ∃ j, findS 4 (.str s) (S.map kvV) i = some (some (i + j, nV v)) ∧ S[j]? = some (s, v)
 | [], i, h => by simp [lk] at h
 | p :: S, i, h => by
  simp only [lk, List.find?_cons] at h
  by_cases e : p.1 = s
  ·simp [e] at h
   have hk : eqKey 4 (.str s) (.str p.1) = some true := by
    show some (s == p.1) = _
    simp [e]
   refine ⟨0, ?_, ?_⟩
   ·simp only [List.map_cons, findS, hk, h]; rfl
   ·simp [← e, ← h]
  ·simp [e] at h
   obtain ⟨j, h1, h2⟩ := find_some (S := S) (i := i + 1) (v := v) (by simp [lk]; exact h)
   have hk : eqKey 4 (.str s) (.str p.1) = some false := by
    show some (s == p.1) = _
    have : ¬ s = p.1 := fun e' => e e'.symm
    simp [this]
   refine ⟨j + 1, ?_, by simpa using h2⟩
   simp only [List.map_cons, findS, hk, h1]
   congr 3
   omega
theorem put_same {S : List (List UInt8 × Nat)} {s : List UInt8} {v j : Nat} (h : S[j]? = some (s, v)) : (S.map kvV).modify j (fun _ => (V.str s, nV v)) = S.map kvV := by
 apply List.ext_getElem?
 intro i
 rw [List.getElem?_modify]
 by_cases e : j = i
 ·subst e; simp [h]
 ·simp [e]
@[simp] theorem eqKey_str (s : List UInt8) : eqKey 4 (.str s) (.str s) = some true := by show some (s == s) = _; simp
theorem lk_mem {S : List (List UInt8 × Nat)} {s : List UInt8} {v : Nat} (h : lk S s = some v) : (s, v) ∈ S := by
 obtain ⟨j, _, h2⟩ := find_some (i := 0) h
 exact List.mem_of_getElem? h2
@[simp] theorem getElem_nthL {l : List (List Nat)} {n : Nat} (h : n < l.length) : l[n] = nth l n := by simp [nth, h]
@[simp] theorem getElem_nthN {l : List Nat} {n : Nat} (h : n < l.length) : l[n] = nth l n := by simp [nth, h]
@[simp] theorem getElem_nthD {l : List Nd} {n : Nat} (h : n < l.length) : l[n] = nth l n := by simp [nth, h]
abbrev w0 := @s_seq
abbrev w1 := @s_skip
abbrev w2 := @s_reg
abbrev w3 := @s_regD
abbrev w4 := @c_reg
abbrev w5 := @c_regD
abbrev w6 := @c_cond
abbrev w7 := @s_cond
abbrev w8 := @s_block
abbrev w9 := @c_block
abbrev w10 := @c_skip
abbrev w11 := @s_ret
abbrev w12 := @c_ret
abbrev w13 := @c_exit
abbrev w14 := @s_exit
abbrev w15 := @leave_r
abbrev w16 := @next_r
abbrev w17 := @leave_n
abbrev w18 := @next_n
abbrev w19 := @next_e
abbrev w20 := @leave_eq
abbrev w21 := @leave_ne
abbrev w22 := @c_seq
abbrev w23 := @finD
abbrev w24 := @callK
abbrev z0 := @Bool.eq_false_iff
abbrev z1.{u} := @ne_eq.{u}
abbrev z2 := @Bool.and_eq_true
abbrev z3 := @Bool.or_eq_true
abbrev z4 := @Bool.not_eq_true'
abbrev z5 := @decide_eq_true_eq
abbrev z6 := @Bool.false_eq_true
abbrev z7 := @Bool.true_eq_false
abbrev z8 := @Decidable.not_not
abbrev z9 := @not_true_eq_false
abbrev z10 := @not_false_eq_true
abbrev z11 := @false_and
abbrev z12 := @true_and
end Go.Proofs.YtjabgfnljbnmmaaDoor
