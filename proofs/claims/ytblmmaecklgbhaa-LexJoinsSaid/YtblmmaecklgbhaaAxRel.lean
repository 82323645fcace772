/- A part of the proof of a law of this seat: no condition. -/
import Derived.Test.YtblmmaecklgbhaaAxCore
set_option linter.unusedVariables false
set_option linter.unusedSimpArgs false
namespace Go.Ax

/-- Cells that stay as they are; and of how many cells blocks are at least. -/
structure Heap where
  cell : Nat → Nat → Option Value
  size : Nat → Nat
instance : CoeFun Heap (fun _ => Nat → Nat → Option Value) := ⟨Heap.cell⟩

def V.isCell : V → Bool
  | .agg _ => false
  | .tup _ => false
  | _ => true
def cellV : Value → Bool
  | .agg _ => false
  | .tuple _ => false
  | _ => true

mutual
inductive RepD (H : Heap) : V → Value → Prop
  | int (k n) : RepD H (.int k n) (.int k n)
  | bool (b) : RepD H (.bool b) (.bool b)
  | str (s : List UInt8) : RepD H (.str s) (.string ⟨s.toArray⟩)
  | nilp : RepD H .nilp (.pointer none)
  | nilfn : RepD H .nilfn .nilFunc
  | fn (f) : RepD H (.fn f) (.func (.func f) #[] #[])
  | agg (cs vs) (h : RepL H cs vs) : RepD H (.agg cs) (.agg vs.toArray)
  | slice0 (sz) : RepD H (.slice sz []) (.slice none 0 0)
  | slice (sz xs b off c) (hr : RepRow H sz b off xs) (hc : xs.length ≤ c) : RepD H (.slice sz xs) (.slice (some ⟨b, off, none⟩) xs.length c)
inductive RepL (H : Heap) : List V → List Value → Prop
  | nil : RepL H [] []
  | cons (x v xs vs) (h1 : x.isCell = true) (h : RepD H x v) (hs : RepL H xs vs) : RepL H (x :: xs) (v :: vs)
inductive RepRow (H : Heap) : Nat → Nat → Nat → List V → Prop
  | nil (sz b off) : RepRow H sz b off []
  | cons (sz b off x xs vs) (hl : vs.length = sz) (h : RepL H x.cells vs) (hm : ∀ j (hj : j < vs.length), H b (off + j) = some vs[j])
      (hs : RepRow H sz b (off + sz) xs) : RepRow H sz b off (x :: xs)
end

structure Le (H H' : Heap) : Prop where
  cell : ∀ b o v, H b o = some v → H' b o = some v
  size : ∀ b, H.size b ≤ H'.size b
theorem Le.refl (H : Heap) : Le H H := ⟨fun _ _ _ h => h, fun _ => Nat.le_refl _⟩
theorem Le.trans {H H' H'' : Heap} (h : Le H H') (h' : Le H' H'') : Le H H'' :=
  ⟨fun b o v x => h'.cell b o v (h.cell b o v x), fun b => Nat.le_trans (h.size b) (h'.size b)⟩

mutual
theorem RepD.mono {H H' : Heap} (hl : Le H H') : ∀ {x v}, RepD H x v → RepD H' x v
  | _, _, .int k n => .int k n
  | _, _, .bool b => .bool b
  | _, _, .str s => .str s
  | _, _, .nilp => .nilp
  | _, _, .nilfn => .nilfn
  | _, _, .fn f => .fn f
  | _, _, .agg cs vs h => .agg cs vs (RepL.mono hl h)
  | _, _, .slice0 sz => .slice0 sz
  | _, _, .slice sz xs b off c hr hc => .slice sz xs b off c (RepRow.mono hl hr) hc
theorem RepL.mono {H H' : Heap} (hl : Le H H') : ∀ {x v}, RepL H x v → RepL H' x v
  | _, _, .nil => .nil
  | _, _, .cons x v xs vs h1 h hs => .cons x v xs vs h1 (RepD.mono hl h) (RepL.mono hl hs)
theorem RepRow.mono {H H' : Heap} (hl : Le H H') : ∀ {sz b off xs}, RepRow H sz b off xs → RepRow H' sz b off xs
  | _, _, _, _, .nil sz b off => .nil sz b off
  | _, _, _, _, .cons sz b off x xs vs hlen h hm hs => .cons sz b off x xs vs hlen (RepL.mono hl h) (fun j hj => hl.cell _ _ _ (hm j hj)) (RepRow.mono hl hs)
end

theorem RepD.cell {H : Heap} {x v} (h : RepD H x v) (hx : x.isCell = true) : cellV v = true := by
  cases h <;> first | rfl | simp [V.isCell] at hx
theorem RepL.cellsV {H : Heap} {xs vs} (h : RepL H xs vs) : ∀ v ∈ vs, cellV v = true := by
  induction xs generalizing vs with
  | nil => cases h; simp
  | cons x xs ih =>
    cases h with
    | cons _ v _ vs h1 h hs =>
      intro u hu
      rcases List.mem_cons.1 hu with rfl | hu
      · exact h.cell h1
      · exact ih hs u hu
theorem RepL.length {H : Heap} {xs vs} (h : RepL H xs vs) : xs.length = vs.length := by
  induction xs generalizing vs with
  | nil => cases h; rfl
  | cons x xs ih => cases h with | cons _ v _ vs h1 h hs => simp [ih hs]
theorem RepL.get {H : Heap} {xs vs} (h : RepL H xs vs) (j : Nat) (hj : j < xs.length) (hj' : j < vs.length) : xs[j].isCell = true ∧ RepD H xs[j] vs[j] := by
  induction xs generalizing vs j with
  | nil => simp at hj
  | cons x xs ih =>
    cases h with
    | cons _ v _ vs h1 h hs =>
      cases j with
      | zero => exact ⟨h1, h⟩
      | succ j => exact ih hs j (by simpa using hj) (by simpa using hj')
theorem RepL.of_get {H : Heap} {xs : List V} {vs : List Value} (hl : xs.length = vs.length)
    (h : ∀ j (hj : j < xs.length) (hj' : j < vs.length), xs[j].isCell = true ∧ RepD H xs[j] vs[j]) : RepL H xs vs := by
  induction xs generalizing vs with
  | nil => cases vs with | nil => exact .nil | cons => simp at hl
  | cons x xs ih =>
    cases vs with
    | nil => simp at hl
    | cons v vs =>
      have h0 := h 0 (by simp) (by simp)
      exact .cons _ _ _ _ h0.1 h0.2 (ih (by simpa using hl) fun j hj hj' => h (j + 1) (by simpa using hj) (by simpa using hj'))
theorem RepL.append {H : Heap} {xs ys vs us} (h : RepL H xs vs) (h' : RepL H ys us) : RepL H (xs ++ ys) (vs ++ us) := by
  induction xs generalizing vs with
  | nil => cases h; simpa using h'
  | cons x xs ih => cases h with | cons _ v _ vs h1 h hs => exact .cons _ _ _ _ h1 h (ih hs)

/-- A row's element. -/
theorem RepRow.get {H : Heap} {sz b off xs} (h : RepRow H sz b off xs) (i : Nat) (hi : i < xs.length) :
    ∃ vs, vs.length = sz ∧ RepL H xs[i].cells vs ∧ ∀ j (hj : j < vs.length), H b (off + i * sz + j) = some vs[j] := by
  induction xs generalizing off i with
  | nil => simp at hi
  | cons x xs ih =>
    cases h with
    | cons _ _ _ _ _ vs hl h hm hs =>
      cases i with
      | zero => exact ⟨vs, hl, h, by simpa using hm⟩
      | succ i =>
        obtain ⟨us, h1, h2, h3⟩ := ih hs i (by simpa using hi)
        refine ⟨us, h1, h2, fun j hj => ?_⟩
        rw [← h3 j hj, Nat.succ_mul]
        congr 1
        omega
theorem RepRow.take {H : Heap} {sz b off xs} (h : RepRow H sz b off xs) (n : Nat) : RepRow H sz b off (xs.take n) := by
  induction xs generalizing off n with
  | nil => simpa using h
  | cons x xs ih =>
    cases h with
    | cons _ _ _ _ _ vs hl h hm hs =>
      cases n with
      | zero => exact .nil _ _ _
      | succ n => exact .cons _ _ _ _ _ vs hl h hm (ih hs n)
theorem RepRow.drop {H : Heap} {sz b off xs} (h : RepRow H sz b off xs) (n : Nat) (hn : n ≤ xs.length) : RepRow H sz b (off + n * sz) (xs.drop n) := by
  induction xs generalizing off n with
  | nil => rw [List.drop_nil]; exact .nil _ _ _
  | cons x xs ih =>
    cases h with
    | cons _ _ _ _ _ vs hl h hm hs =>
      cases n with
      | zero => simpa using RepRow.cons _ _ _ _ _ vs hl h hm hs
      | succ n =>
        have := ih hs n (by simpa using hn)
        rw [Nat.succ_mul, show off + (n * sz + sz) = off + sz + n * sz from by omega]
        exact this
theorem RepRow.append {H : Heap} {sz b off xs ys} (h : RepRow H sz b off xs) (h' : RepRow H sz b (off + xs.length * sz) ys) : RepRow H sz b off (xs ++ ys) := by
  induction xs generalizing off with
  | nil => simpa using h'
  | cons x xs ih =>
    cases h with
    | cons _ _ _ _ _ vs hl h hm hs =>
      refine .cons _ _ _ _ _ vs hl h hm (ih hs ?_)
      rw [List.length_cons, Nat.succ_mul, show off + (xs.length * sz + sz) = off + sz + xs.length * sz from by omega] at h'
      exact h'
/-- All cells of a row, flat. -/
theorem RepRow.flat {H : Heap} {sz b off xs} (h : RepRow H sz b off xs) :
    ∃ vs, vs.length = xs.length * sz ∧ (∀ x ∈ xs, x.cells.length = sz) ∧ RepL H (xs.flatMap V.cells) vs ∧ ∀ j (hj : j < vs.length), H b (off + j) = some vs[j] := by
  induction xs generalizing off with
  | nil => exact ⟨[], by simp, by simp, .nil, by simp⟩
  | cons x xs ih =>
    cases h with
    | cons _ _ _ _ _ vs hl h hm hs =>
      obtain ⟨us, h1, h2, h3, h4⟩ := ih hs
      refine ⟨vs ++ us, by simp [hl, h1, Nat.succ_mul, Nat.add_comm], ?_, by simpa using h.append h3, fun j hj => ?_⟩
      · intro y hy
        rcases List.mem_cons.1 hy with rfl | hy
        · rw [h.length, hl]
        · exact h2 y hy
      · rw [List.getElem_append]
        split
        · exact hm j _
        · rename_i hlt
          rw [← h4 (j - vs.length) (by simp at hj; omega)]
          congr 1
          omega
theorem RepRow.of_flat {H : Heap} {sz b off} {xs : List V} {vs : List Value} (hx : ∀ x ∈ xs, x.cells.length = sz) (h : RepL H (xs.flatMap V.cells) vs)
    (hm : ∀ j (hj : j < vs.length), H b (off + j) = some vs[j]) : RepRow H sz b off xs := by
  induction xs generalizing off vs with
  | nil => exact .nil _ _ _
  | cons x xs ih =>
    have hl := h.length
    have hx0 := hx x (by simp)
    rw [List.flatMap_cons, List.length_append, hx0] at hl
    refine .cons _ _ _ _ _ (vs.take sz) (by simp; omega) ?_ (fun j hj => ?_) (ih (vs := vs.drop sz) (fun y hy => hx y (by simp [hy])) ?_ ?_)
    · refine RepL.of_get (by rw [List.length_take]; omega) fun j hj hj' => ?_
      have := h.get j (by rw [List.flatMap_cons, List.length_append]; omega) (by omega)
      simpa [List.flatMap_cons, List.getElem_append_left hj] using this
    · simp only [List.getElem_take]
      exact hm j _
    · refine RepL.of_get (by rw [List.length_drop]; omega) fun j hj hj' => ?_
      have := h.get (sz + j) (by rw [List.flatMap_cons, List.length_append]; omega) (by rw [List.length_drop] at hj'; omega)
      simpa [List.flatMap_cons, List.getElem_append_right (show x.cells.length ≤ sz + j by omega), hx0] using this
    · intro j hj
      simp only [List.getElem_drop]
      rw [← hm (sz + j) (by simp at hj; omega)]
      congr 1
      omega

/-! ### what stands in a tmp or a cell -/
inductive Rep1 (H : Heap) (μ : Oid → Option Nat) : V → Value → Prop
  | any (v) : Rep1 H μ .any v
  | nils : Rep1 H μ .nils (.slice none 0 0)
  | data (x v) (h : RepD H x v) : Rep1 H μ x v
  | own0 (sz) : Rep1 H μ (.own sz []) (.slice none 0 0)
  | own (sz xs b off c) (hr : RepRow H sz b off xs) (hc : xs.length ≤ c) : Rep1 H μ (.own sz xs) (.slice (some ⟨b, off, none⟩) xs.length c)
  | ref (o b off) (h : μ o = some b) : Rep1 H μ (.ref o off) (.pointer (some ⟨b, off, none⟩))
  | eptr (cs vs b o0 off) (h : RepL H cs vs) (hm : ∀ j (hj : j < vs.length), H b (o0 + j) = some vs[j]) : Rep1 H μ (.eptr cs off) (.pointer (some ⟨b, o0 + off, none⟩))
  | sl0 (sz o) : Rep1 H μ (.sl sz o 0) (.slice none 0 0)
  | sl (sz o b n c) (h : μ o = some b) (hc : n ≤ c) (hs : c * sz ≤ H.size b) : Rep1 H μ (.sl sz o n) (.slice (some ⟨b, 0, none⟩) n c)
  | mp (o b) (h : μ o = some b) : Rep1 H μ (.mp o) (.map (some b))
inductive RepC (H : Heap) (μ : Oid → Option Nat) : List V → List Value → Prop
  | nil : RepC H μ [] []
  | cons (x v xs vs) (h1 : x.isCell = true) (hv : cellV v = true) (h : Rep1 H μ x v) (hs : RepC H μ xs vs) : RepC H μ (x :: xs) (v :: vs)
inductive Rep2 (H : Heap) (μ : Oid → Option Nat) : V → Value → Prop
  | one (x v) (h : Rep1 H μ x v) : Rep2 H μ x v
  | agg (cs vs) (h : RepC H μ cs vs) : Rep2 H μ (.agg cs) (.agg vs.toArray)
  | clo (f a b us vs) (h : RepC H μ a us) (h' : RepC H μ b vs) : Rep2 H μ (.clo f a b) (.func (.func f) us.toArray vs.toArray)
inductive RepT (H : Heap) (μ : Oid → Option Nat) : List V → List Value → Prop
  | nil : RepT H μ [] []
  | cons (x v xs vs) (h : Rep2 H μ x v) (hs : RepT H μ xs vs) : RepT H μ (x :: xs) (v :: vs)
inductive RepS (H : Heap) (μ : Oid → Option Nat) : V → Value → Prop
  | two (x v) (h : Rep2 H μ x v) : RepS H μ x v
  | tup (xs vs) (h : RepT H μ xs vs) : RepS H μ (.tup xs) (.tuple vs.toArray)

def LeM (μ μ' : Oid → Option Nat) : Prop := ∀ o b, μ o = some b → μ' o = some b
section
variable {H H' : Heap} {μ μ' : Oid → Option Nat} (hl : Le H H') (hm : LeM μ μ')
include hl hm
theorem Rep1.mono {x v} (h : Rep1 H μ x v) : Rep1 H' μ' x v := by
  cases h with
  | any => exact .any _
  | nils => exact .nils
  | data _ _ h => exact .data _ _ (h.mono hl)
  | own0 => exact .own0 _
  | own sz xs b off c hr hc => exact .own sz xs b off c (hr.mono hl) hc
  | ref o b off h => exact .ref o b off (hm o b h)
  | sl0 sz o => exact .sl0 sz o
  | sl sz o b n c h hc hs => exact .sl sz o b n c (hm o b h) hc (Nat.le_trans hs (hl.size b))
  | mp o b h => exact .mp o b (hm o b h)
  | eptr cs vs b o0 off h hmm => exact .eptr cs vs b o0 off (h.mono hl) (fun j hj => hl.cell _ _ _ (hmm j hj))
theorem RepC.mono {x v} (h : RepC H μ x v) : RepC H' μ' x v := by
  induction x generalizing v with
  | nil => cases h; exact .nil
  | cons x xs ih => cases h with | cons _ v _ vs h1 hv h hs => exact .cons _ _ _ _ h1 hv (h.mono hl hm) (ih hs)
theorem Rep2.mono {x v} (h : Rep2 H μ x v) : Rep2 H' μ' x v := by
  cases h with
  | one _ _ h => exact .one _ _ (h.mono hl hm)
  | agg cs vs h => exact .agg _ _ (h.mono hl hm)
  | clo f a b us vs h h' => exact .clo f a b us vs (h.mono hl hm) (h'.mono hl hm)
theorem RepT.mono {x v} (h : RepT H μ x v) : RepT H' μ' x v := by
  induction x generalizing v with
  | nil => cases h; exact .nil
  | cons x xs ih => cases h with | cons _ v _ vs h hs => exact .cons _ _ _ _ (h.mono hl hm) (ih hs)
theorem RepS.mono {x v} (h : RepS H μ x v) : RepS H' μ' x v := by
  cases h with
  | two _ _ h => exact .two _ _ (h.mono hl hm)
  | tup xs vs h => exact .tup _ _ (h.mono hl hm)
end
theorem RepC.length {H μ xs vs} (h : RepC H μ xs vs) : xs.length = vs.length := by
  induction xs generalizing vs with
  | nil => cases h; rfl
  | cons x xs ih => cases h with | cons _ v _ vs h1 hv h hs => simp [ih hs]
theorem RepC.get {H μ xs vs} (h : RepC H μ xs vs) (j : Nat) (hj : j < xs.length) (hj' : j < vs.length) : xs[j].isCell = true ∧ cellV vs[j] = true ∧ Rep1 H μ xs[j] vs[j] := by
  induction xs generalizing vs j with
  | nil => simp at hj
  | cons x xs ih =>
    cases h with
    | cons _ v _ vs h1 hv h hs =>
      cases j with
      | zero => exact ⟨h1, hv, h⟩
      | succ j => exact ih hs j (by simpa using hj) (by simpa using hj')
theorem RepC.of_get {H μ} {xs : List V} {vs : List Value} (hl : xs.length = vs.length)
    (h : ∀ j (hj : j < xs.length) (hj' : j < vs.length), xs[j].isCell = true ∧ cellV vs[j] = true ∧ Rep1 H μ xs[j] vs[j]) : RepC H μ xs vs := by
  induction xs generalizing vs with
  | nil => cases vs with | nil => exact .nil | cons => simp at hl
  | cons x xs ih =>
    cases vs with
    | nil => simp at hl
    | cons v vs =>
      have h0 := h 0 (by simp) (by simp)
      exact .cons _ _ _ _ h0.1 h0.2.1 h0.2.2 (ih (by simpa using hl) fun j hj hj' => h (j + 1) (by simpa using hj) (by simpa using hj'))
theorem RepL.toC {H μ xs vs} (h : RepL H xs vs) : RepC H μ xs vs := by
  induction xs generalizing vs with
  | nil => cases h; exact .nil
  | cons x xs ih => cases h with | cons _ v _ vs h1 h hs => exact .cons _ _ _ _ h1 (h.cell h1) (.data _ _ h) (ih hs)

theorem Rep1.weak1 {H μ x v} (h : Rep1 H μ x v) : Rep1 H μ x.weak1 v := by
  cases h with
  | own0 => exact .data _ _ (.slice0 _)
  | own sz xs b off c hr hc => exact .data _ _ (.slice sz xs b off c hr hc)
  | any => exact .any _
  | nils => exact .nils
  | ref o b off h => exact .ref o b off h
  | eptr cs vs b o0 off h hm => exact .eptr cs vs b o0 off h hm
  | sl0 sz o => exact .sl0 sz o
  | sl sz o b n c h hc hs => exact .sl sz o b n c h hc hs
  | mp o b h => exact .mp o b h
  | data _ _ h => cases h <;> exact .data _ _ (by constructor <;> assumption)
theorem isCell_weak1 {x : V} (h : x.isCell = true) : x.weak1.isCell = true := by cases x <;> simp_all [V.weak1, V.isCell]
theorem RepC.weak {H μ xs vs} (h : RepC H μ xs vs) : RepC H μ (xs.map V.weak1) vs := by
  induction xs generalizing vs with
  | nil => cases h; exact .nil
  | cons x xs ih => cases h with | cons _ v _ vs h1 hv h hs => exact .cons _ _ _ _ (isCell_weak1 h1) hv h.weak1 (ih hs)
theorem RepS.weak {H μ x v} (h : RepS H μ x v) : RepS H μ x.weak v := by
  cases h with
  | tup xs vs h => exact .tup _ _ h
  | two _ _ h =>
    refine .two _ _ ?_
    cases h with
    | agg cs vs h => exact .agg _ _ h.weak
    | clo f a b us vs h h' => exact .clo f a b us vs h h'
    | one _ _ h =>
      cases h with
      | data _ _ h =>
        cases h with
        | agg cs vs h => exact .agg _ _ (RepC.weak h.toC)
        | _ => exact .one _ _ (.data _ _ (by constructor <;> assumption))
      | own0 => exact .one _ _ (.data _ _ (.slice0 _))
      | own sz xs b off c hr hc => exact .one _ _ (.data _ _ (.slice sz xs b off c hr hc))
      | any => exact .one _ _ (.any _)
      | nils => exact .one _ _ .nils
      | ref o b off h => exact .one _ _ (.ref o b off h)
      | eptr cs vs b o0 off h hm => exact .one _ _ (.eptr cs vs b o0 off h hm)
      | sl0 sz o => exact .one _ _ (.sl0 sz o)
      | sl sz o b n c h hc hs => exact .one _ _ (.sl sz o b n c h hc hs)
      | mp o b h => exact .one _ _ (.mp o b h)

end Go.Ax
