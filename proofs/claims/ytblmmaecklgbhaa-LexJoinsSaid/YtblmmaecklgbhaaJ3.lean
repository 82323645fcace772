/- A part of the proof of a law of this seat: no condition. -/
import Derived.Test.YtblmmaecklgbhaaJ2
import Derived.Test.YtblmmaecklgbhaaL10
import Derived.Below
set_option linter.unusedSimpArgs false
set_option linter.unusedVariables false
namespace Go.Proofs.Ytblmmaecklgbhaa
open Go.Ax
theorem grow_rel {H : Heap} {μ : Oid → Option Nat} {F : Fr} {st : St} {tm : Nat → Value} : ∀ (os : List Obj) {w w' : World}, Rel H μ F st tm w → w'.heap = w.heap ++ os.toArray → Rel H μ F st tm w'
  | [], w, w', h, hh => h.world (by simpa using hh)
  | o :: os, w, w', h, hh => by
    have h1 : Rel H μ F st tm { w with heap := w.heap.push o } := by
      refine h.push o rfl (Le.refl _) (fun _ _ _ => rfl) (fun k v hv => ?_) (fun _ _ => rfl) ?_
      · rw [h.noNew k] at hv; cases hv
      · have := h.size w.heap.size
        have e : blkSize w w.heap.size = 0 := by simp [blkSize]
        omega
    refine grow_rel os h1 (w' := w') ?_
    rw [hh]
    simp
theorem below_heap {w w' : World} (hb : RowKit.Below w.heap.size w w') : w'.heap = w.heap ++ (w'.heap.toList.drop w.heap.size).toArray := by
  apply Array.ext'
  simp only [Array.toList_append]
  rw [← List.take_append_drop w.heap.size w'.heap.toList]
  congr 1
  · apply List.ext_getElem?
    intro i
    rw [List.getElem?_take]
    split
    · rename_i hi
      have := hb.block i hi
      simpa [Array.getElem?_toList] using this
    · rename_i hi
      rw [List.getElem?_eq_none (by simpa using hi)]
  · simp
/-- A row that a call has made is known from then on. -/
theorem learn_row {H : Heap} {μ : Oid → Option Nat} {F : Fr} {st : St} {tm : Nat → Value} {w w' : World} (hr : Rel H μ F st tm w) (hb : RowKit.Below w.heap.size w w') {e : TypeId} {v : Value} {n : Nat} {us : List Value} {xs : List V}
    (hown : w'.ownsRow w.heap.size e 1 v n us) (hx : us.length = xs.length) (hrep : ∀ j (h : j < xs.length) (h' : j < us.length), ∀ H, xs[j].cells = [xs[j]] ∧ xs[j].isCell = true ∧ RepD H xs[j] us[j]) :
    ∃ H', Rel H' μ F st tm w' ∧ Ext F H w H' w' ∧ RepD H' (.slice 1 xs) v := by
  have hh := below_heap hb
  have hx0 : Ext F H w H w' := ⟨⟨hb.os, hb.tape, hb.output⟩, Le.refl _, hb.size, fun b _ hlt => hb.block b hlt, fun _ _ _ _ => rfl⟩
  rcases hown.2 with ⟨rfl, rfl⟩ | ⟨g, cap, cur, rfl, hg, hblk, hnc, hcm, hcs, htake⟩
  · have h0 : us = [] := List.eq_nil_of_length_eq_zero (by simpa using hown.1)
    have h1 : xs = [] := List.eq_nil_of_length_eq_zero (by rw [← hx, h0]; rfl)
    subst h1
    exact ⟨H, grow_rel _ hr hh, hx0, .slice0 _⟩
  · have hul : us.length = n := by simpa using hown.1
    -- the heap up to the row
    obtain ⟨news, hnews⟩ : ∃ news : List Obj, w'.heap.toList.drop w.heap.size = news := ⟨_, rfl⟩
    rw [hnews] at hh
    have hgn : news[g - w.heap.size]? = some (.cells cur e (0, 0)) := by
      rw [hh, Array.getElem?_append_right (by omega)] at hblk
      simpa using hblk
    obtain ⟨hgl, hge⟩ := List.getElem?_eq_some_iff.1 hgn
    have hsplit : news = news.take (g - w.heap.size) ++ (.cells cur e (0, 0)) :: news.drop (g - w.heap.size + 1) := by
      rw [← hge, List.getElem_cons_drop, List.take_append_drop]
    have r1 : Rel H μ F st tm { w with heap := w.heap ++ (news.take (g - w.heap.size)).toArray } := grow_rel _ hr rfl
    have hsz1 : (w.heap ++ (news.take (g - w.heap.size)).toArray).size = g := by simp; omega
    let H' : Heap := ⟨fun b k => if b = g then (if k < n then cur[k]? else none) else H b k, fun b => if b = g then 0 else H.size b⟩
    have hnog : ∀ k, H g k = none := fun k => by have := r1.noNew k; simp only [hsz1] at this; exact this
    have hle : Le H H' := ⟨fun b k u hu => by
      show (if b = g then _ else _) = _
      rw [if_neg (by rintro rfl; rw [hnog] at hu; cases hu)]
      exact hu, fun b => by
        show _ ≤ (if b = g then _ else _)
        split
        · rename_i h0; subst h0
          have := r1.noSize
          simp only [hsz1] at this
          omega
        · exact Nat.le_refl _⟩
    have r2 : Rel H' μ F st tm { w with heap := (w.heap ++ (news.take (g - w.heap.size)).toArray).push (.cells cur e (0, 0)) } := by
      refine r1.push (.cells cur e (0, 0)) rfl hle (fun b k hne => ?_) (fun k u hu => ?_) (fun b hne => ?_) ?_
      · simp only [hsz1] at hne
        show (if b = g then _ else _) = _
        rw [if_neg hne]
      · simp only [hsz1] at hu ⊢
        have hu' : (if g = g then (if k < n then cur[k]? else none) else H g k) = some u := hu
        rw [if_pos rfl] at hu'
        split at hu'
        · rw [cell?_of (w := { w with heap := (w.heap ++ (news.take (g - w.heap.size)).toArray).push (.cells cur e (0, 0)) }) (vs := cur) (ty := e) (fr := (0, 0)) (by
            show ((w.heap ++ (news.take (g - w.heap.size)).toArray).push (Obj.cells cur e (0, 0)))[g]? = _
            rw [Array.getElem?_push, if_pos hsz1.symm])]
          exact hu'
        · cases hu'
      · simp only [hsz1] at hne
        show (if b = g then _ else _) = _
        rw [if_neg hne]
      · simp only [hsz1]
        show (if g = g then 0 else _) ≤ _
        rw [if_pos rfl]
        exact Nat.zero_le _
    have r3 : Rel H' μ F st tm w' := by
      refine grow_rel (news.drop (g - w.heap.size + 1)) r2 ?_
      rw [hh]
      conv => lhs; rw [hsplit]
      simp
    refine ⟨H', r3, ⟨⟨hb.os, hb.tape, hb.output⟩, hle, hb.size, fun b _ hlt => hb.block b hlt, fun b _ hlt k => ?_⟩, ?_⟩
    · show (if b = g then _ else _) = _
      rw [if_neg (by omega)]
    · have hxl : xs.length = n := by omega
      have hcell : ∀ j (hj : j < us.length), H' g (0 + j) = some us[j] := by
        intro j hj
        show (if g = g then (if 0 + j < n then cur[0 + j]? else none) else _) = _
        rw [if_pos rfl, if_pos (by omega), Nat.zero_add]
        obtain ⟨y, hy⟩ : ∃ y, us[j]? = some y := ⟨_, List.getElem?_eq_getElem hj⟩
        have e2 : us[j] = y := (List.getElem?_eq_some_iff.1 hy).2
        rw [e2]
        rw [← htake, List.getElem?_take, if_pos (by omega)] at hy
        simpa using hy
      have hflat : xs.flatMap V.cells = xs := by
        clear hcell htake r3 r2
        have : ∀ (l : List V), (∀ x ∈ l, x.cells = [x]) → l.flatMap V.cells = l := by
          intro l
          induction l with
          | nil => intro _; rfl
          | cons a r ih => intro h; rw [List.flatMap_cons, h a (by simp), ih fun x hx => h x (by simp [hx])]; rfl
        refine this xs fun x hx' => ?_
        obtain ⟨j, hj, rfl⟩ := List.mem_iff_getElem.1 hx'
        exact (hrep j hj (by omega) H).1
      have := RepD.slice (H := H') 1 xs g 0 cap (RepRow.of_flat (fun x hx' => by
          obtain ⟨j, hj, rfl⟩ := List.mem_iff_getElem.1 hx'
          rw [(hrep j hj (by omega) H).1]; rfl) (by
          rw [hflat]
          exact RepL.of_get (by omega) fun j hj hj' => ⟨(hrep j hj hj' H').2.1, (hrep j hj hj' H').2.2⟩) hcell) (by omega)
      rw [hxl] at this
      exact this
def strs : List V → Option (List (List UInt8))
  | [] => some []
  | .str s :: r => (strs r).map (s :: ·)
  | _ => none
theorem strs_some : ∀ {xs : List V} {l : List (List UInt8)}, strs xs = some l → xs = l.map V.str
  | [], l, h => by simp [strs] at h; subst h; rfl
  | x :: r, l, h => by
    cases x <;> simp [strs] at h
    obtain ⟨l', h1, rfl⟩ := h
    rw [strs_some h1]
    rfl
@[simp] theorem strs_map (l : List (List UInt8)) : strs (l.map V.str) = some l := by
  induction l with
  | nil => rfl
  | cons a r ih => simp [strs, ih]
@[simp] theorem strs_map' {α : Type} (f : α → List UInt8) (l : List α) : strs (l.map fun x => V.str (f x)) = some (l.map f) := by
  have := strs_map (l.map f)
  rwa [List.map_map] at this
def joinsOk (l : List (List UInt8)) : Bool := decide (l.length ≤ 1000000) && l.all fun x => decide (x.length ≤ 1000000)
def atV (l : List (List UInt8)) : List V := (List.range l.length).map fun i => .int .i64 ((sp l i).length : Int)
def sp17 : Sp
  | [.slice 1 xs], [] => match strs xs with
    | some l => if joinsOk l = true then some (.tup [.str (jn l l.length), .slice 1 (atV l)], [], []) else none
    | none => none
  | _, _ => none
theorem jn_len {l : List (List UInt8)} (h : ∀ x ∈ l, x.length ≤ 1000000) : ∀ j, (jn l j).length ≤ j * 1000001
  | 0 => by simp [jn]
  | j + 1 => by
    have ih := jn_len h j
    have hx : (l.getD j []).length ≤ 1000000 := by
      rw [List.getD_eq_getElem?_getD]
      cases e : l[j]? with
      | none => simp
      | some x => exact h x (List.mem_of_getElem? e)
    rw [jn_succ, List.length_append]
    have hs : (sp l j).length ≤ (jn l j).length + 1 := by
      cases j <;> simp [sp]
    omega
theorem fn17 {B : Heap} : FnOk Try.prog B 17 sp17 := by
  intro args objs r objs' news h
  unfold sp17 at h
  split at h
  · rename_i xs
    split at h
    · rename_i l hl
      have := strs_some hl
      subst this
      split at h
      · rename_i hj
        cases h
        simp only [joinsOk, Bool.and_eq_true, decide_eq_true_eq, List.all_eq_true] at hj
        obtain ⟨hn, hm⟩ := hj
        refine ⟨Try.call17, rfl, fun H F w μ us hFB hlen hr0 => ?_⟩
        obtain ⟨x, rfl, hx⟩ := repArgs1 (repArgs_of hlen hr0)
        have hb : ∀ j, j ≤ l.length → (jn l j).length + 1 ≤ 140737488355328 := fun j hj => by
          have := jn_len hm j
          have : j * 1000001 ≤ 1000000 * 1000001 := Nat.mul_le_mul_right _ (by omega)
          omega
        have key : Calls Try.prog 17 #[x] w fun e w' => ∃ v, e = .returned (.tuple #[.string ⟨(jn l l.length).toArray⟩, v]) ∧ RowKit.Below w.heap.size w w' ∧ w'.ownsRow w.heap.size 3 1 v l.length (ats l l.length) := by
          rcases hx.elems rfl with ⟨rfl, h0⟩ | ⟨b, off, c, rfl, hc, hrow⟩
          · have h1 : l = [] := by simpa using h0
            subst h1
            exact join_walk [] none 0 0 0 w (fun h => by simp at h) (fun j h => by simp at h) hb (by simp)
          · have e : (l.map V.str).length = l.length := by simp
            rw [e]
            refine join_walk l (some ⟨b, off, none⟩) b off c w (fun _ => rfl) (fun j hj => ?_) hb hn
            obtain ⟨vs, g1, g2, g3⟩ := hrow.get j (by simpa using hj)
            have hv : vs = [.string ⟨(l.getD j []).toArray⟩] := by
              simp only [List.getElem_map, V.cells] at g2
              cases g2 with
              | cons _ v _ vs' h1 h2 h3 =>
                cases h3
                cases h2
                simp [List.getD_eq_getElem?_getD, hj]
            subst hv
            have := hr0.heap _ _ _ (g3 0 (by simp))
            simpa using this
        refine key.mono ?_
        rintro e w' ⟨v, rfl, hbl, hown⟩
        obtain ⟨H', r1, x1, rd⟩ := learn_row (xs := atV l) hr0 hbl hown (by simp [ats, atV]) (fun j h h' H => by
          simp only [atV, ats, List.getElem_map, List.getElem_range]
          exact ⟨rfl, rfl, .int _ _⟩)
        refine ⟨_, H', fun _ => none, F, rfl, rfl, rfl, by simp, ?_, x1⟩
        have h0 := r1.rename (F' := F) (fun _ => none) (fun _ => none) (fun _ => none) (st' := ⟨[], []⟩) (tm' := noTm) rfl rfl (by simp) (by simp) (fun u => rfl) (by simp) (fun t => ⟨.any, noTm t, rfl, rfl, .two _ _ (.one _ _ (.any _)), by simp [V.isOwn]⟩) (by simp [St.ob, lookO])
        exact h0.put (t := 0) (.tup _ _ (.cons _ _ _ _ (.one _ _ (.data _ _ (.str _))) (.cons _ _ _ _ (.one _ _ (.data _ _ rd)) .nil))) (fun sz xs _ _ _ _ e => by cases e)
      · cases h
    · cases h
  · cases h
end Go.Proofs.Ytblmmaecklgbhaa
