/- A part of the proof of a law of this seat: no condition. -/
import Derived.Test.YtblmmaecklgbhaaAxSt
namespace Go.Ax
attribute [local simp] look_cons
section
variable {H H' : Heap} {μ μ' : Oid → Option Nat} {F : Fr} {st st' : St} {tm tm' : Nat → Value} {w w' : World}

theorem setCell_heap (w : World) (b j : Nat) (v : Value) (b' : Nat) (h : b' ≠ b) : (w.setCell ⟨b, j, none⟩ v).heap[b']? = w.heap[b']? := by
  simp only [World.setCell]
  rw [Array.getElem?_modify]
  simp [Ne.symm h]
theorem setCell_heap_same {w : World} {b : Nat} {vs : Array Value} {ty fr} (h : w.heap[b]? = some (.cells vs ty fr)) (j : Nat) (v : Value) :
    (w.setCell ⟨b, j, none⟩ v).heap[b]? = some (.cells (vs.setIfInBounds j v) ty fr) := by
  simp only [World.setCell]
  rw [Array.getElem?_modify]
  simp [h]
theorem setCell_size (w : World) (a : Addr) (v : Value) : (w.setCell a v).heap.size = w.heap.size := by simp [World.setCell]
theorem cell?_set {w : World} {b : Nat} {vs : Array Value} {ty fr} (h : w.heap[b]? = some (.cells vs ty fr)) (j k : Nat) (v : Value) (hk : k ≠ j) :
    (w.setCell ⟨b, j, none⟩ v).cell? ⟨b, k, none⟩ = w.cell? ⟨b, k, none⟩ := by
  rw [cell?_of (setCell_heap_same h j v), cell?_of h, Array.getElem?_setIfInBounds]
  simp [Ne.symm hk]
theorem cell?_set_same {w : World} {b : Nat} {vs : Array Value} {ty fr} (h : w.heap[b]? = some (.cells vs ty fr)) (j : Nat) (v : Value) (hj : j < vs.size) :
    (w.setCell ⟨b, j, none⟩ v).cell? ⟨b, j, none⟩ = some v := by
  rw [cell?_of (setCell_heap_same h j v), Array.getElem?_setIfInBounds]
  simp [hj]

/-- One cell of an object is written. It is a row only if nobody else has it. -/
theorem Rel.setCell (h : Rel H μ F st tm w) {o : Oid} {b : Nat} (hb : μ o = some b) {cs : List V} (ho : st.ob o = some (.cells cs)) {j : Nat} (hj : j < cs.length)
    {x : V} {v : Value} (hx : x.isCell = true) (hv : cellV v = true) (hr : Rep1 H μ x v)
    (hown : ∀ sz xs b' off n c, x = .own sz xs → v = .slice (some ⟨b', off, none⟩) n c → OwnAt H μ F w b' (off + n * sz) (off + c * sz) ∧ ∀ ℓ, ¬ Holds μ st tm w ℓ b') :
    Rel H μ F (st.putO o (.cells (cs.set j x))) tm (w.setCell ⟨b, j, none⟩ v) := by
  obtain ⟨y, hy, hob, hlt⟩ := h.obLt hb
  rw [ho] at hy
  injection hy with hy
  subst hy
  obtain ⟨vs, ty, hblk, hrep⟩ := hob
  have hlen := hrep.length
  have hjv : j < vs.size := by
    have h2 : cs.length = vs.size := by simpa using hlen
    omega
  have hob' : ∀ u b', μ u = some b' → u ≠ o → b' ≠ b := fun u b' hu hne he => hne (h.inj u o b (he ▸ hu) hb)
  have hoa : ∀ b' e top, OwnAt H μ F w b' e top → OwnAt H μ F (w.setCell ⟨b, j, none⟩ v) b' e top := by
    rintro b' e top ⟨⟨vs', ty', h1, h2⟩, h3, h4, h5⟩
    exact ⟨⟨vs', ty', by rw [setCell_heap w b j v b' (fun ee : b' = b => h4 o (by rw [ee]; exact hb))]; exact h1, h2⟩, h3, h4, h5⟩
  have ha : ∀ ℓ sz xs b' off n c, atL μ (st.putO o (.cells (cs.set j x))) tm (w.setCell ⟨b, j, none⟩ v) ℓ (.own sz xs) (.slice (some ⟨b', off, none⟩) n c) →
      (ℓ = .o o j ∧ x = .own sz xs ∧ v = .slice (some ⟨b', off, none⟩) n c) ∨ atL μ st tm w ℓ (.own sz xs) (.slice (some ⟨b', off, none⟩) n c) := by
    intro ℓ sz xs b' off n c
    cases ℓ with
    | t m => exact .inr
    | o u k =>
      rintro ⟨cs', b2, h1, h2, h3, h4⟩
      by_cases e : o = u
      · subst e
        simp [St.ob_putO] at h1
        subst h1
        rw [hb] at h2
        injection h2 with h2
        subst h2
        by_cases ek : j = k
        · subst ek
          rw [cell?_set_same hblk j v hjv] at h4
          simp [hj] at h3
          injection h4 with h4
          exact .inl ⟨rfl, h3, h4⟩
        · rw [cell?_set hblk j k v (Ne.symm ek)] at h4
          simp [ek] at h3
          exact .inr ⟨cs, b, ho, hb, h3, h4⟩
      · simp [St.ob_putO, e] at h1
        rw [cell?_eq (setCell_heap _ _ _ _ _ (hob' u b2 h2 (Ne.symm e)))] at h4
        exact .inr ⟨cs', b2, h1, h2, h3, h4⟩
  refine ⟨h.env, ?_, ?_, ?_, h.inj, h.objH, h.objF, by rw [setCell_size]; exact h.Flt, ?_, ?_, h.par, h.base⟩
  · intro b' k u hu
    have hne : b' ≠ b := fun e => by subst e; rw [h.objH o b' hb k] at hu; simp at hu
    rw [cell?_eq (setCell_heap _ _ _ _ _ hne)]
    exact h.heap b' k u hu
  · intro u hu
    by_cases e : o = u
    · subst e; simp [St.ob_putO] at hu
    · simp [St.ob_putO, e] at hu; exact h.dom u hu
  · intro u y hy
    by_cases e : o = u
    · subst e
      simp [St.ob_putO] at hy
      subst hy
      refine ⟨b, hb, vs.setIfInBounds j v, ty, setCell_heap_same hblk j v, RepC.of_get (by simp [hlen]) fun k hk hk' => ?_⟩
      simp only [Array.toList_setIfInBounds] at hk' ⊢
      rw [List.getElem_set, List.getElem_set]
      by_cases ek : j = k
      · subst ek; simp [hx, hv, hr]
      · simp [ek]
        exact hrep.get k (by simpa using hk) (by simpa using hk')
    · simp [St.ob_putO, e] at hy
      obtain ⟨b2, h1, h2⟩ := h.obs u y hy
      refine ⟨b2, h1, ?_⟩
      cases y with
      | cells cs' =>
        obtain ⟨vs', ty', h3, h4⟩ := h2
        exact ⟨vs', ty', by rw [setCell_heap _ _ _ _ _ (hob' u b2 h1 (Ne.symm e))]; exact h3, h4⟩
  · intro ℓ sz xs b' off n c hl
    rcases ha _ _ _ _ _ _ _ hl with ⟨_, h2, h3⟩ | h2
    · exact hoa _ _ _ (hown _ _ _ _ _ _ h2 h3).1
    · exact hoa _ _ _ (h.own _ _ _ _ _ _ _ h2)
  · rintro ℓ ℓ' b' ⟨sz1, xs1, off1, n1, c1, h1⟩ ⟨sz2, xs2, off2, n2, c2, h2⟩
    rcases ha _ _ _ _ _ _ _ h1 with ⟨e1, e1', e1''⟩ | h3 <;> rcases ha _ _ _ _ _ _ _ h2 with ⟨e2, e2', e2''⟩ | h4
    · rw [e1, e2]
    · exact absurd ⟨_, _, _, _, _, h4⟩ ((hown _ _ _ _ _ _ e1' e1'').2 ℓ')
    · exact absurd ⟨_, _, _, _, _, h3⟩ ((hown _ _ _ _ _ _ e2' e2'').2 ℓ)
    · exact h.ownInj ℓ ℓ' b' ⟨_, _, _, _, _, h3⟩ ⟨_, _, _, _, _, h4⟩
theorem Ext.setCell (h : Rel H μ F st tm w) {o : Oid} {b : Nat} (hb : μ o = some b) (j : Nat) (v : Value) : Ext F H w H (w.setCell ⟨b, j, none⟩ v) :=
  ⟨⟨rfl, rfl, rfl⟩, Le.refl _, by rw [setCell_size]; exact Nat.le_refl _, fun b' hF _ => setCell_heap _ _ _ _ _ (fun e => h.objF o b hb (e ▸ hF)), fun _ _ _ _ => rfl⟩

/-- An object's cell gives its row up. -/
theorem Rel.weakO (h : Rel H μ F st tm w) {o : Oid} {cs : List V} (ho : st.ob o = some (.cells cs)) {j : Nat} {x : V} (hj : cs[j]? = some x) :
    Rel H μ F (st.putO o (.cells (cs.set j x.weak))) tm w ∧ ∀ b, Holds μ st tm w (.o o j) b → ∀ ℓ, ¬ Holds μ (st.putO o (.cells (cs.set j x.weak))) tm w ℓ b := by
  obtain ⟨b, hb, vs, ty, hblk, hrep⟩ := h.obs o _ ho
  have hlen := hrep.length
  obtain ⟨hjl, hjx⟩ := List.getElem?_eq_some_iff.1 hj
  have hwk : x.isCell = true := by have := (hrep.get j hjl (hlen ▸ hjl)).1; rwa [hjx] at this
  have hwe : x.weak = x.weak1 := by cases x <;> simp_all [V.weak, V.weak1, V.isCell]
  have hno : ∀ sz xs, x.weak ≠ .own sz xs := by
    intro sz xs
    cases x <;> simp [V.weak]
  have ha : ∀ ℓ sz xs b' off n c, atL μ (st.putO o (.cells (cs.set j x.weak))) tm w ℓ (.own sz xs) (.slice (some ⟨b', off, none⟩) n c) →
      ℓ ≠ .o o j ∧ atL μ st tm w ℓ (.own sz xs) (.slice (some ⟨b', off, none⟩) n c) := by
    intro ℓ sz xs b' off n c
    cases ℓ with
    | t m => exact fun x => ⟨by simp, x⟩
    | o u k =>
      rintro ⟨cs', b2, h1, h2, h3, h4⟩
      by_cases e : o = u
      · subst e
        simp [St.ob_putO] at h1
        subst h1
        by_cases ek : j = k
        · subst ek
          simp [hjl] at h3
          exact absurd h3 (hno _ _)
        · simp [ek] at h3
          exact ⟨by simp; exact fun x => ek x.symm, cs, b2, ho, h2, h3, h4⟩
      · simp [St.ob_putO, e] at h1
        exact ⟨by simp; exact fun x => absurd x.symm e, cs', b2, h1, h2, h3, h4⟩
  refine ⟨⟨h.env, h.heap, ?_, ?_, h.inj, h.objH, h.objF, h.Flt, fun ℓ sz xs b' off n c x => h.own _ _ _ _ _ _ _ (ha _ _ _ _ _ _ _ x).2, ?_, h.par, h.base⟩, ?_⟩
  · intro u hu
    by_cases e : o = u
    · subst e; simp [St.ob_putO] at hu
    · simp [St.ob_putO, e] at hu; exact h.dom u hu
  · intro u y hy
    by_cases e : o = u
    · subst e
      simp [St.ob_putO] at hy
      subst hy
      refine ⟨b, hb, vs, ty, hblk, RepC.of_get (by simpa using hlen) fun k hk hk' => ?_⟩
      rw [List.getElem_set]
      have hg := hrep.get k (by simpa using hk) hk'
      by_cases ek : j = k
      · subst ek
        simp only [if_pos, hwe]
        rw [hjx] at hg
        exact ⟨isCell_weak1 hg.1, hg.2.1, hg.2.2.weak1⟩
      · simp only [if_neg ek]
        exact hg
    · simp [St.ob_putO, e] at hy
      exact h.obs u y hy
  · rintro ℓ ℓ' b' ⟨sz1, xs1, off1, n1, c1, h1⟩ ⟨sz2, xs2, off2, n2, c2, h2⟩
    exact h.ownInj ℓ ℓ' b' ⟨_, _, _, _, _, (ha _ _ _ _ _ _ _ h1).2⟩ ⟨_, _, _, _, _, (ha _ _ _ _ _ _ _ h2).2⟩
  · rintro b' hb' ℓ ⟨sz1, xs1, off1, n1, c1, h1⟩
    have := ha _ _ _ _ _ _ _ h1
    exact this.1 (h.ownInj ℓ (.o o j) b' ⟨_, _, _, _, _, this.2⟩ hb')

/-- H and more cells of one block. -/
def Heap.row (H : Heap) (b off : Nat) (vs : List Value) : Heap := fun b' k => if b' = b ∧ off ≤ k ∧ k < off + vs.length then vs[k - off]? else H b' k
theorem Heap.row_at (H : Heap) (b off : Nat) (vs : List Value) (j : Nat) (hj : j < vs.length) : H.row b off vs b (off + j) = some vs[j] := by
  simp [Heap.row, hj]
theorem Heap.row_ne (H : Heap) (b off : Nat) (vs : List Value) (b' k : Nat) (h : b' ≠ b) : H.row b off vs b' k = H b' k := by simp [Heap.row, h]
theorem Heap.row_le (H : Heap) (b off : Nat) (vs : List Value) (h : ∀ k, off ≤ k → H b k = none) : Le H (H.row b off vs) := by
  intro b' k v hv
  simp only [Heap.row]
  split
  · rename_i hc
    obtain ⟨rfl, h1, _⟩ := hc
    rw [h k h1] at hv
    simp at hv
  · exact hv

/-- Cells that nobody reads are written: of a block that is nobody's row and no object. -/
theorem Rel.fill1 (h : Rel H μ F st tm w) {b k top : Nat} (ho : OwnAt H μ F w b k top) (hf : ∀ ℓ, ¬ Holds μ st tm w ℓ b) (hk : k < top) (v : Value) (H0 : Heap)
    (h0 : ∀ b' k', ¬ (b' = b ∧ k' = k) → H0 b' k' = H b' k') (h1 : H0 b k = some v) :
    Rel H0 μ F st tm (w.setCell ⟨b, k, none⟩ v) ∧ OwnAt H0 μ F (w.setCell ⟨b, k, none⟩ v) b (k + 1) top ∧ (∀ ℓ, ¬ Holds μ st tm (w.setCell ⟨b, k, none⟩ v) ℓ b) ∧ Ext F H w H0 (w.setCell ⟨b, k, none⟩ v) := by
  obtain ⟨⟨vs, ty, hblk, htop⟩, hfree, hnoobj, hnofr⟩ := ho
  have hle : Le H H0 := by
    intro b' k' u hu
    rw [h0 b' k' (fun e => by obtain ⟨rfl, rfl⟩ := e; rw [hfree k' (Nat.le_refl _)] at hu; simp at hu)]
    exact hu
  have hne : ∀ u b', μ u = some b' → b' ≠ b := fun u b' hu e => hnoobj u (e ▸ hu)
  have hat : ∀ ℓ x u, atL μ st tm (w.setCell ⟨b, k, none⟩ v) ℓ x u ↔ atL μ st tm w ℓ x u := by
    intro ℓ x u
    cases ℓ with
    | t m => exact Iff.rfl
    | o o j =>
      constructor
      · rintro ⟨cs, b', h1, h2, h3, h4⟩
        exact ⟨cs, b', h1, h2, h3, by rwa [cell?_eq (setCell_heap _ _ _ _ _ (hne o b' h2))] at h4⟩
      · rintro ⟨cs, b', h1, h2, h3, h4⟩
        exact ⟨cs, b', h1, h2, h3, by rwa [cell?_eq (setCell_heap _ _ _ _ _ (hne o b' h2))]⟩
  have hho : ∀ ℓ b', Holds μ st tm (w.setCell ⟨b, k, none⟩ v) ℓ b' ↔ Holds μ st tm w ℓ b' := by simp [Holds, hat]
  refine ⟨⟨fun t => (h.env t).mono hle (fun _ _ x => x), ?_, h.dom, ?_, h.inj, ?_, h.objF, by rw [setCell_size]; exact h.Flt, ?_, ?_, h.par, h.base.trans hle⟩, ?_, ?_, ?_⟩
  · intro b' k' u hu
    by_cases e : b' = b ∧ k' = k
    · obtain ⟨rfl, rfl⟩ := e
      rw [cell?_set_same hblk _ _ (by omega), ← h1]
      exact hu
    · rw [h0 b' k' e] at hu
      have := h.heap b' k' u hu
      by_cases eb : b' = b
      · subst eb
        rw [cell?_set hblk k k' v (fun x => e ⟨rfl, x⟩)]
        exact this
      · rw [cell?_eq (setCell_heap _ _ _ _ _ eb)]
        exact this
  · intro u x hx
    obtain ⟨b', h2, h3⟩ := h.obs u x hx
    refine ⟨b', h2, ?_⟩
    cases x with
    | cells cs =>
      obtain ⟨vs', ty', h4, h5⟩ := h3
      exact ⟨vs', ty', by rw [setCell_heap _ _ _ _ _ (hne u b' h2)]; exact h4, h5.mono hle (fun _ _ x => x)⟩
  · intro u b' hb' k'
    rw [h0 b' k' (fun e => hne u b' hb' e.1)]
    exact h.objH u b' hb' k'
  · intro ℓ sz xs b' off n c hl
    have hl' := (hat _ _ _).1 hl
    have hne' : b' ≠ b := fun e => hf ℓ ⟨sz, xs, off, n, c, e ▸ hl'⟩
    obtain ⟨⟨vs', ty', h2, h3⟩, h4, h5, h6⟩ := h.own _ _ _ _ _ _ _ hl'
    exact ⟨⟨vs', ty', by rw [setCell_heap _ _ _ _ _ hne']; exact h2, h3⟩, fun k' hk' => by rw [h0 b' k' (fun e => hne' e.1)]; exact h4 k' hk', h5, h6⟩
  · intro ℓ ℓ' b' x y
    exact h.ownInj ℓ ℓ' b' ((hho _ _).1 x) ((hho _ _).1 y)
  · exact ⟨⟨_, ty, setCell_heap_same hblk k v, by simpa using htop⟩, fun k' hk' => by rw [h0 b k' (by omega)]; exact hfree k' (by omega), hnoobj, hnofr⟩
  · exact fun ℓ x => hf ℓ ((hho _ _).1 x)
  · refine ⟨⟨rfl, rfl, rfl⟩, hle, by rw [setCell_size]; exact Nat.le_refl _, fun b' hF _ => setCell_heap _ _ _ _ _ (fun e => hnofr (e ▸ hF)), fun b' hF _ k' => h0 b' k' (fun e => hnofr (e.1 ▸ hF))⟩
end
end Go.Ax
