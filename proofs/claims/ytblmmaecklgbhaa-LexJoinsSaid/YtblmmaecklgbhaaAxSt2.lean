/- A part of the proof of a law of this seat: no condition. -/
import Derived.Test.YtblmmaecklgbhaaAxSt
set_option linter.unusedVariables false
set_option linter.unusedSimpArgs false
namespace Go.Ax
attribute [local simp] look_cons
def updO (μ : Oid → Option Nat) (o : Oid) (b : Option Nat) : Oid → Option Nat := fun u => if u = o then b else μ u
def OwnIn (w : World) (b : Nat) (x : Ob) (j b' : Nat) : Prop :=
  ∃ row cs sz xs off n c, x = .cells row cs ∧ cs[j]? = some (.own sz xs) ∧ w.cell? ⟨b, j, none⟩ = some (.slice (some ⟨b', off, none⟩) n c)
theorem OwnAt.sub {H ν ν' F w b e top} (h : OwnAt H ν F w b e top) (hs : ∀ o b, ν' o = some b → ν o = some b) : OwnAt H ν' F w b e top :=
  ⟨h.blk, h.free, fun o ho => h.noobj o (hs o b ho), h.nofr⟩
theorem live_kill {st : St} {μ : Oid → Option Nat} {o u : Oid} : live (st.putO o .dead) μ u = if u = o then none else live st μ u := by
  unfold live
  rw [St.ob_putO]
  by_cases e : o = u
  · subst e; simp
  · simp [e, Ne.symm e]
theorem live_add {st : St} {μ : Oid → Option Nat} {o u : Oid} {x : Ob} {b : Option Nat} (hx : x.alive = true) : live (st.putO o x) (updO μ o b) u = if u = o then b else live st μ u := by
  unfold live
  rw [St.ob_putO]
  by_cases e : o = u
  · subst e
    simp [updO]
    cases x <;> simp_all [Ob.alive]
  · simp [e, Ne.symm e, updO]
theorem live_set {st : St} {μ : Oid → Option Nat} {o u : Oid} {x y : Ob} (hx : x.alive = true) (ho : st.ob o = some y) (hy : y.alive = true) : live (st.putO o x) μ u = live st μ u := by
  unfold live
  rw [St.ob_putO]
  by_cases e : o = u
  · subst e
    rw [ho]
    cases x <;> cases y <;> simp_all [Ob.alive]
  · simp [e]
section
variable {H H' : Heap} {μ μ' : Oid → Option Nat} {F : Fr} {st st' : St} {tm tm' : Nat → Value} {w w' : World}

/-- Nobody may use an object any more. -/
theorem Rel.kill (h : Rel H μ F st tm w) {o : Oid} (ho : st.ob o ≠ none) : Rel H μ F (st.putO o .dead) tm w ∧ (∀ j b, Holds μ st tm w (.o o j) b → ∀ ℓ, ¬ Holds μ (st.putO o .dead) tm w ℓ b) ∧
    (∀ b, live st μ o = some b → ∀ u, live (st.putO o .dead) μ u ≠ some b) ∧ ∀ ℓ b, Holds μ (st.putO o .dead) tm w ℓ b → Holds μ st tm w ℓ b := by
  have hsub : ∀ u b, live (st.putO o .dead) μ u = some b → live st μ u = some b ∧ u ≠ o := by
    intro u b hu
    rw [live_kill] at hu
    split at hu
    · simp at hu
    · rename_i e; exact ⟨hu, e⟩
  have hat : ∀ ℓ x v, atL μ (st.putO o .dead) tm w ℓ x v → atL μ st tm w ℓ x v ∧ ∀ j, ℓ ≠ .o o j := by
    intro ℓ x v hl
    cases ℓ with
    | t m => exact ⟨hl, by simp⟩
    | o u j =>
      obtain ⟨row, cs, b, h1, h2, h3, h4⟩ := hl
      rw [St.ob_putO] at h1
      by_cases e : o = u
      · rw [if_pos e] at h1; simp at h1
      · rw [if_neg e] at h1
        exact ⟨⟨row, cs, b, h1, h2, h3, h4⟩, fun j' e' => by simp at e'; exact e e'.1.symm⟩
  have hh : ∀ ℓ b, Holds μ (st.putO o .dead) tm w ℓ b → Holds μ st tm w ℓ b := fun ℓ b ⟨sz, xs, off, n, c, hl⟩ => ⟨sz, xs, off, n, c, (hat _ _ _ hl).1⟩
  refine ⟨⟨h.env, h.heap, h.size, ?_, ?_, fun u u' b h1 h2 => h.inj u u' b (hsub _ _ h1).1 (hsub _ _ h2).1, fun u b h1 => h.objH u b (hsub _ _ h1).1, fun u b h1 => h.objF u b (hsub _ _ h1).1, h.Flt,
    fun ℓ sz xs b off n c hl => (h.own _ _ _ _ _ _ _ (hat _ _ _ hl).1).sub (fun u b hu => (hsub u b hu).1), fun ℓ ℓ' b h1 h2 => h.ownInj ℓ ℓ' b (hh _ _ h1) (hh _ _ h2), ?_, h.base⟩, ?_, ?_, hh⟩
  · intro u hu
    rw [St.ob_putO] at hu
    split at hu
    · simp at hu
    · exact h.dom u hu
  · intro u x hx ha
    rw [St.ob_putO] at hx
    split at hx
    · simp at hx; subst hx; simp [Ob.alive] at ha
    · exact h.obs u x hx ha
  · intro j hj
    rw [St.ob_putO] at hj
    split at hj
    · rename_i e; exact h.par j (e ▸ ho)
    · exact h.par j hj
  · rintro j b hb ℓ ⟨sz, xs, off, n, c, hl⟩
    obtain ⟨h1, h2⟩ := hat _ _ _ hl
    exact h2 j (h.ownInj ℓ (.o o j) b ⟨sz, xs, off, n, c, h1⟩ hb)
  · intro b hb u hu
    obtain ⟨h1, h2⟩ := hsub u b hu
    exact h2 (h.inj u o b h1 hb)

/-- An object gets a name: nobody else has its block. -/
theorem Rel.addOb (h : Rel H μ F st tm w) {o : Oid} (hop : ∀ j, o ≠ .par j) (ho : st.ob o = none) {x : Ob} (hax : x.alive = true) {b : Nat}
    (hr : RepOb H (updO μ o (some b)) w b x) (hb1 : ∀ u, live st μ u ≠ some b) (hb2 : ∀ k, H b k = none) (hb3 : ¬ F b) (hb4 : ∀ ℓ, ¬ Holds μ st tm w ℓ b)
    (hown : ∀ row cs j sz xs b' off n c, x = .cells row cs → cs[j]? = some (.own sz xs) → w.cell? ⟨b, j, none⟩ = some (.slice (some ⟨b', off, none⟩) n c) →
      b' ≠ b ∧ OwnAt H (live st μ) F w b' (off + n * sz) (off + c * sz) ∧ ∀ ℓ, ¬ Holds μ st tm w ℓ b')
    (hinj : ∀ j j' b', OwnIn w b x j b' → OwnIn w b x j' b' → j = j') : Rel H (updO μ o (some b)) F (st.putO o x) tm w := by
  have hμ := h.dom o ho
  have hle : LeM μ (updO μ o (some b)) := by
    intro u b' hb'
    unfold updO
    by_cases e : u = o
    · subst e; rw [hμ] at hb'; simp at hb'
    · simpa [e] using hb'
  have hlv : ∀ u, live (st.putO o x) (updO μ o (some b)) u = if u = o then some b else live st μ u := fun u => live_add hax
  have hat : ∀ ℓ y v, atL (updO μ o (some b)) (st.putO o x) tm w ℓ y v → (∃ row cs j, ℓ = .o o j ∧ x = .cells row cs ∧ cs[j]? = some y ∧ w.cell? ⟨b, j, none⟩ = some v) ∨ (atL μ st tm w ℓ y v ∧ ∀ j, ℓ ≠ .o o j) := by
    intro ℓ y v hl
    cases ℓ with
    | t m => exact .inr ⟨hl, by simp⟩
    | o u j =>
      obtain ⟨row, cs, b', h1, h2, h3, h4⟩ := hl
      rw [St.ob_putO] at h1
      by_cases e : o = u
      · subst e
        simp at h1
        simp [updO] at h2
        subst h2
        exact .inl ⟨row, cs, j, rfl, h1, h3, h4⟩
      · rw [if_neg e] at h1
        simp [updO, Ne.symm e] at h2
        exact .inr ⟨⟨row, cs, b', h1, h2, h3, h4⟩, fun j' e' => by simp at e'; exact e e'.1.symm⟩
  refine ⟨fun t => (h.env t).mono (Le.refl _) hle, h.heap, h.size, ?_, ?_, ?_, ?_, ?_, h.Flt, ?_, ?_, ?_, h.base⟩
  · intro u hu
    rw [St.ob_putO] at hu
    split at hu
    · simp at hu
    · rename_i e; simp [updO, Ne.symm e]; exact h.dom u hu
  · intro u y hy ha
    rw [St.ob_putO] at hy
    split at hy
    · rename_i e
      subst e
      injection hy with hy
      subst hy
      exact .inl ⟨b, by simp [updO], hr⟩
    · rename_i e
      rcases h.obs u y hy ha with ⟨b', h1, h2⟩ | ⟨h1, h2⟩
      · exact .inl ⟨b', hle _ _ h1, h2.keep rfl (Le.refl _) hle⟩
      · exact .inr ⟨h1, by simp [updO, Ne.symm e, h2]⟩
  · intro u u' b' h1 h2
    rw [hlv] at h1 h2
    split at h1 <;> split at h2
    · rename_i e e'; rw [e, e']
    · injection h1 with h1; subst h1; exact absurd h2 (hb1 _)
    · injection h2 with h2; subst h2; exact absurd h1 (hb1 _)
    · exact h.inj u u' b' h1 h2
  · intro u b' hb' k
    rw [hlv] at hb'
    split at hb'
    · injection hb' with hb'; subst hb'; exact hb2 k
    · exact h.objH u b' hb' k
  · intro u b' hb'
    rw [hlv] at hb'
    split at hb'
    · injection hb' with hb'; subst hb'; exact hb3
    · exact h.objF u b' hb'
  · intro ℓ sz xs b' off n c hl
    rcases hat _ _ _ hl with ⟨row, cs, j, e, e1, e2, e3⟩ | ⟨h1, h2⟩
    · obtain ⟨g1, ⟨g2, g3, g4, g5⟩, g6⟩ := hown row cs j sz xs b' off n c e1 e2 e3
      refine ⟨g2, g3, fun u hu => ?_, g5⟩
      rw [hlv] at hu
      split at hu
      · injection hu with hu; exact g1 hu.symm
      · exact g4 u hu
    · obtain ⟨g2, g3, g4, g5⟩ := h.own _ _ _ _ _ _ _ h1
      refine ⟨g2, g3, fun u hu => ?_, g5⟩
      rw [hlv] at hu
      split at hu
      · injection hu with hu; subst hu; exact hb4 ℓ ⟨_, _, _, _, _, h1⟩
      · exact g4 u hu
  · rintro ℓ ℓ' b' ⟨sz, xs, off, n, c, h1⟩ ⟨sz', xs', off', n', c', h2⟩
    rcases hat _ _ _ h1 with ⟨row, cs, j, e, e1, e2, e3⟩ | ⟨h3, h3'⟩ <;> rcases hat _ _ _ h2 with ⟨row', cs', j', e', e1', e2', e3'⟩ | ⟨h4, h4'⟩
    · rw [e, e', hinj j j' b' ⟨row, cs, sz, xs, off, n, c, e1, e2, e3⟩ ⟨row', cs', sz', xs', off', n', c', e1', e2', e3'⟩]
    · exact absurd ⟨_, _, _, _, _, h4⟩ ((hown _ _ _ _ _ _ _ _ _ e1 e2 e3).2.2 ℓ')
    · exact absurd ⟨_, _, _, _, _, h3⟩ ((hown _ _ _ _ _ _ _ _ _ e1' e2' e3').2.2 ℓ)
    · exact h.ownInj ℓ ℓ' b' ⟨_, _, _, _, _, h3⟩ ⟨_, _, _, _, _, h4⟩
  · intro j hj
    have hne := hop j
    rw [St.ob_putO, if_neg hne] at hj
    simp [updO, Ne.symm hne]
    exact h.par j hj
/-- A row that is nil gets a name. -/
theorem Rel.addNil (h : Rel H μ F st tm w) {o : Oid} (hop : ∀ j, o ≠ .par j) (ho : st.ob o = none) : Rel H μ F (st.putO o (.cells true [])) tm w := by
  have hμ := h.dom o ho
  have hlv : ∀ u, live (st.putO o (.cells true [])) μ u = live st μ u := by
    intro u
    unfold live
    rw [St.ob_putO]
    by_cases e : o = u
    · subst e; simp [ho]
    · simp [e]
  have hat : ∀ ℓ y v, atL μ (st.putO o (.cells true [])) tm w ℓ y v → atL μ st tm w ℓ y v := by
    intro ℓ y v hl
    cases ℓ with
    | t m => exact hl
    | o u j =>
      obtain ⟨row, cs, b', h1, h2, h3, h4⟩ := hl
      rw [St.ob_putO] at h1
      by_cases e : o = u
      · subst e; rw [hμ] at h2; simp at h2
      · rw [if_neg e] at h1
        exact ⟨row, cs, b', h1, h2, h3, h4⟩
  have hL : live (st.putO o (.cells true [])) μ = live st μ := funext hlv
  refine ⟨h.env, h.heap, h.size, ?_, ?_, by rw [hL]; exact h.inj, by rw [hL]; exact h.objH, by rw [hL]; exact h.objF, h.Flt, fun ℓ sz xs b off n c hl => by rw [hL]; exact h.own _ _ _ _ _ _ _ (hat _ _ _ hl),
    fun ℓ ℓ' b ⟨sz, xs, off, n, c, h1⟩ ⟨sz', xs', off', n', c', h2⟩ => h.ownInj ℓ ℓ' b ⟨_, _, _, _, _, hat _ _ _ h1⟩ ⟨_, _, _, _, _, hat _ _ _ h2⟩, ?_, h.base⟩
  · intro u hu
    rw [St.ob_putO] at hu
    split at hu
    · simp at hu
    · exact h.dom u hu
  · intro u y hy ha
    rw [St.ob_putO] at hy
    split at hy
    · rename_i e
      injection hy with hy
      exact .inr ⟨hy.symm, e ▸ hμ⟩
    · exact h.obs u y hy ha
  · intro j hj
    have hne := hop j
    rw [St.ob_putO, if_neg hne] at hj
    exact h.par j hj

theorem setCell_heap (w : World) (b j : Nat) (v : Value) (b' : Nat) (h : b' ≠ b) : (w.setCell ⟨b, j, none⟩ v).heap[b']? = w.heap[b']? := by
  simp only [World.setCell]
  rw [Array.getElem?_modify]
  simp [Ne.symm h]
theorem setCell_heap_same {w : World} {b : Nat} {vs : Array Value} {ty fr} (h : w.heap[b]? = some (.cells vs ty fr)) (j : Nat) (v : Value) :
    (w.setCell ⟨b, j, none⟩ v).heap[b]? = some (.cells (vs.setIfInBounds j v) ty fr) := by
  simp only [World.setCell]
  rw [Array.getElem?_modify]
  simp [h]
theorem setCell_size (w : World) (a : Addr) (v : Value) : (w.setCell a v).heap.size = w.heap.size := by simp [World.setCell]
theorem setCell_blk {w : World} {b : Nat} {vs : Array Value} {ty fr} (h : w.heap[b]? = some (.cells vs ty fr)) (j : Nat) (v : Value) (b' : Nat) : blkSize (w.setCell ⟨b, j, none⟩ v) b' = blkSize w b' := by
  by_cases e : b' = b
  · subst e; rw [blkSize_of (setCell_heap_same h j v), blkSize_of h]; simp
  · exact blkSize_eq (setCell_heap _ _ _ _ _ e)
theorem cell?_set {w : World} {b : Nat} {vs : Array Value} {ty fr} (h : w.heap[b]? = some (.cells vs ty fr)) (j k : Nat) (v : Value) (hk : k ≠ j) :
    (w.setCell ⟨b, j, none⟩ v).cell? ⟨b, k, none⟩ = w.cell? ⟨b, k, none⟩ := by
  rw [cell?_of (setCell_heap_same h j v), cell?_of h, Array.getElem?_setIfInBounds]
  simp [Ne.symm hk]
theorem cell?_set_same {w : World} {b : Nat} {vs : Array Value} {ty fr} (h : w.heap[b]? = some (.cells vs ty fr)) (j : Nat) (v : Value) (hj : j < vs.size) :
    (w.setCell ⟨b, j, none⟩ v).cell? ⟨b, j, none⟩ = some v := by
  rw [cell?_of (setCell_heap_same h j v), Array.getElem?_setIfInBounds]
  simp [hj]
theorem rowOk_iff {cs : List V} : rowOk cs = true ↔ ∀ x ∈ cs, x.pure1 = true := by simp [rowOk]

/-- One cell of an object is written, or the cell behind its last. It is a row only if nobody else has it. -/
theorem Rel.setCell (h : Rel H μ F st tm w) {o : Oid} {b : Nat} (hb : μ o = some b) {row : Bool} {cs cs' : List V} (ho : st.ob o = some (.cells row cs)) {j : Nat} {x : V} {v : Value}
    (hj : j < cs.length ∧ cs' = cs.set j x ∨ j = cs.length ∧ cs' = cs ++ [x] ∧ j < blkSize w b)
    (hx : x.isCell = true) (hv : cellV v = true) (hr : Rep1 H μ x v) (hrow : row = true → x.pure1 = true)
    (hown : ∀ sz xs b' off n c, x = .own sz xs → v = .slice (some ⟨b', off, none⟩) n c → OwnAt H (live st μ) F w b' (off + n * sz) (off + c * sz) ∧ ∀ ℓ, ¬ Holds μ st tm w ℓ b') :
    Rel H μ F (st.putO o (.cells row cs')) tm (w.setCell ⟨b, j, none⟩ v) := by
  have hlb := h.cellsLive ho hb
  obtain ⟨vs, ty, hblk, hrep, hro⟩ := h.cellsAt ho hb
  have hlen := hrep.length
  rw [List.length_take] at hlen
  have hlen' : cs.length ≤ vs.size := by simp at hlen; omega
  have hjv : j < vs.size := by
    rcases hj with ⟨h1, _⟩ | ⟨h1, _, h2⟩
    · omega
    · rw [blkSize_of hblk] at h2; exact h2
  have hcl : cs.length ≤ cs'.length ∧ cs'.length ≤ vs.size := by
    rcases hj with ⟨h1, rfl⟩ | ⟨h1, rfl, h2⟩
    · simp; omega
    · simp; omega
  have hget : ∀ k, cs'[k]? = if k = j then some x else cs[k]? := by
    intro k
    rcases hj with ⟨h1, rfl⟩ | ⟨h1, rfl, h2⟩
    · rw [List.getElem?_set]
      by_cases e : j = k
      · subst e; simp [h1]
      · simp [e, Ne.symm e]
    · subst h1
      by_cases e : k = cs.length
      · subst e; simp
      · rw [if_neg e, List.getElem?_append]
        split
        · rfl
        · rename_i hk
          rw [List.getElem?_eq_none (by simp; omega), List.getElem?_eq_none (by omega)]
  have hob' : ∀ u b', live st μ u = some b' → u ≠ o → b' ≠ b := fun u b' hu hne he => hne (h.inj u o b (he ▸ hu) hlb)
  have hlv : ∀ u, live (st.putO o (.cells row cs')) μ u = live st μ u := fun u => live_set rfl ho rfl
  have hL : live (st.putO o (.cells row cs')) μ = live st μ := funext hlv
  have hoa : ∀ b' e top, OwnAt H (live st μ) F w b' e top → OwnAt H (live st μ) F (w.setCell ⟨b, j, none⟩ v) b' e top := by
    rintro b' e top ⟨⟨vs', ty', h1, h2⟩, h3, h4, h5⟩
    exact ⟨⟨vs', ty', by rw [setCell_heap w b j v b' (fun ee : b' = b => h4 o (by rw [ee]; exact hlb))]; exact h1, h2⟩, h3, h4, h5⟩
  have ha : ∀ ℓ sz xs b' off n c, atL μ (st.putO o (.cells row cs')) tm (w.setCell ⟨b, j, none⟩ v) ℓ (.own sz xs) (.slice (some ⟨b', off, none⟩) n c) →
      (ℓ = .o o j ∧ x = .own sz xs ∧ v = .slice (some ⟨b', off, none⟩) n c) ∨ atL μ st tm w ℓ (.own sz xs) (.slice (some ⟨b', off, none⟩) n c) := by
    intro ℓ sz xs b' off n c
    cases ℓ with
    | t m => exact .inr
    | o u k =>
      rintro ⟨row2, cs2, b2, h1, h2, h3, h4⟩
      by_cases e : o = u
      · subst e
        simp [St.ob_putO] at h1
        obtain ⟨rfl, rfl⟩ := h1
        rw [hb] at h2
        injection h2 with h2
        subst h2
        rw [hget] at h3
        by_cases ek : k = j
        · subst ek
          rw [cell?_set_same hblk k v hjv] at h4
          rw [if_pos rfl] at h3
          injection h3 with h3
          injection h4 with h4
          exact .inl ⟨rfl, h3, h4⟩
        · rw [cell?_set hblk j k v ek] at h4
          rw [if_neg ek] at h3
          exact .inr ⟨row, cs, b, ho, hb, h3, h4⟩
      · simp [St.ob_putO, e] at h1
        rw [cell?_eq (setCell_heap _ _ _ _ _ (hob' u b2 (h.cellsLive h1 h2) (Ne.symm e)))] at h4
        exact .inr ⟨row2, cs2, b2, h1, h2, h3, h4⟩
  refine ⟨h.env, ?_, fun b' => by rw [setCell_blk hblk]; exact h.size b', ?_, ?_, by rw [hL]; exact h.inj, by rw [hL]; exact h.objH, by rw [hL]; exact h.objF, by rw [setCell_size]; exact h.Flt, ?_, ?_, ?_, h.base⟩
  · intro b' k u hu
    have hne : b' ≠ b := fun e => by subst e; rw [h.objH o b' hlb k] at hu; simp at hu
    rw [cell?_eq (setCell_heap _ _ _ _ _ hne)]
    exact h.heap b' k u hu
  · intro u hu
    by_cases e : o = u
    · subst e; simp [St.ob_putO] at hu
    · simp [St.ob_putO, e] at hu; exact h.dom u hu
  · intro u y hy hay
    by_cases e : o = u
    · subst e
      simp [St.ob_putO] at hy
      subst hy
      refine .inl ⟨b, hb, vs.setIfInBounds j v, ty, setCell_heap_same hblk j v, RepC.of_get (by simp; omega) fun k hk hk' => ?_, fun hr' => ?_⟩
      · have hk2 : k < vs.size := by omega
        have e1 : (vs.setIfInBounds j v).toList.take cs'.length = (vs.toList.set j v).take cs'.length := by simp
        have e2 : ((vs.setIfInBounds j v).toList.take cs'.length)[k] = if j = k then v else vs[k] := by
          simp only [List.getElem_take, Array.toList_setIfInBounds, List.getElem_set, Array.getElem_toList]
        rw [e2]
        have e3 := hget k
        rw [List.getElem?_eq_getElem hk] at e3
        by_cases ek : j = k
        · subst ek
          simp at e3
          rw [e3]
          simp [hx, hv, hr]
        · rw [if_neg (Ne.symm ek)] at e3
          obtain ⟨hk3, e4⟩ := List.getElem?_eq_some_iff.1 e3.symm
          have := hrep.get k hk3 (by simp; omega)
          simp only [List.getElem_take, Array.getElem_toList] at this
          rw [if_neg ek, ← e4]
          exact this
      · rw [rowOk_iff]
        intro y hy
        obtain ⟨k, hk⟩ := List.mem_iff_getElem?.1 hy
        rw [hget] at hk
        split at hk
        · injection hk with hk; subst hk; exact hrow hr'
        · exact rowOk_iff.1 (hro hr') y (List.mem_of_getElem? hk)
    · simp [St.ob_putO, e] at hy
      rcases h.obs u y hy hay with ⟨b2, h1, h2⟩ | h1
      · refine .inl ⟨b2, h1, h2.keep (setCell_heap _ _ _ _ _ (hob' u b2 (live_of h1 ?_) (Ne.symm e))) (Le.refl _) (fun _ _ x => x)⟩
        rw [hy]
        intro e'
        injection e' with e'
        subst e'
        simp [Ob.alive] at hay
      · exact .inr h1
  · intro ℓ sz xs b' off n c hl
    rw [hL]
    rcases ha _ _ _ _ _ _ _ hl with ⟨_, h2, h3⟩ | h2
    · exact hoa _ _ _ (hown _ _ _ _ _ _ h2 h3).1
    · exact hoa _ _ _ (h.own _ _ _ _ _ _ _ h2)
  · rintro ℓ ℓ' b' ⟨sz1, xs1, off1, n1, c1, h1⟩ ⟨sz2, xs2, off2, n2, c2, h2⟩
    rcases ha _ _ _ _ _ _ _ h1 with ⟨e1, e1', e1''⟩ | h3 <;> rcases ha _ _ _ _ _ _ _ h2 with ⟨e2, e2', e2''⟩ | h4
    · rw [e1, e2]
    · exact absurd ⟨_, _, _, _, _, h4⟩ ((hown _ _ _ _ _ _ e1' e1'').2 ℓ')
    · exact absurd ⟨_, _, _, _, _, h3⟩ ((hown _ _ _ _ _ _ e2' e2'').2 ℓ)
    · exact h.ownInj ℓ ℓ' b' ⟨_, _, _, _, _, h3⟩ ⟨_, _, _, _, _, h4⟩
  · intro k hk
    rw [St.ob_putO] at hk
    split at hk
    · rename_i e; exact h.par k (by rw [← e, ho]; simp)
    · exact h.par k hk
theorem Ext.setCell (h : Rel H μ F st tm w) {o : Oid} {b : Nat} (hb : live st μ o = some b) (j : Nat) (v : Value) : Ext F H w H (w.setCell ⟨b, j, none⟩ v) :=
  ⟨⟨rfl, rfl, rfl⟩, Le.refl _, by rw [setCell_size]; exact Nat.le_refl _, fun b' hF _ => setCell_heap _ _ _ _ _ (fun e => h.objF o b hb (e ▸ hF)), fun _ _ _ _ => rfl⟩

theorem pure1_weak {x : V} (h : x.pure1 = true) : x.weak.pure1 = true := by cases x <;> simp_all [V.pure1, V.weak]
/-- An object's cell gives its row up. -/
theorem Rel.weakO (h : Rel H μ F st tm w) {o : Oid} {row : Bool} {cs : List V} (ho : st.ob o = some (.cells row cs)) {j : Nat} {x : V} (hj : cs[j]? = some x) :
    Rel H μ F (st.putO o (.cells row (cs.set j x.weak))) tm w ∧ ∀ b, Holds μ st tm w (.o o j) b → ∀ ℓ, ¬ Holds μ (st.putO o (.cells row (cs.set j x.weak))) tm w ℓ b := by
  obtain ⟨hjl, hjx⟩ := List.getElem?_eq_some_iff.1 hj
  obtain ⟨b, vs, ty, hb, hlb, hblk, hrep, hro⟩ := h.cellsSome ho (.inr (by intro e; subst e; simp at hjl))
  have hlen := hrep.length
  have hwk : x.isCell = true := by have := (hrep.get j hjl (hlen ▸ hjl)).1; rwa [hjx] at this
  have hwe : x.weak = x.weak1 := by
    clear hjx hj
    cases x <;> first | rfl | simp [V.isCell] at hwk
  have hno : ∀ sz xs, x.weak ≠ .own sz xs := by
    intro sz xs
    cases x <;> simp [V.weak]
  have hL : live (st.putO o (.cells row (cs.set j x.weak))) μ = live st μ := funext fun u => live_set rfl ho rfl
  have ha : ∀ ℓ sz xs b' off n c, atL μ (st.putO o (.cells row (cs.set j x.weak))) tm w ℓ (.own sz xs) (.slice (some ⟨b', off, none⟩) n c) →
      ℓ ≠ .o o j ∧ atL μ st tm w ℓ (.own sz xs) (.slice (some ⟨b', off, none⟩) n c) := by
    intro ℓ sz xs b' off n c
    cases ℓ with
    | t m => exact fun x => ⟨by simp, x⟩
    | o u k =>
      rintro ⟨row2, cs', b2, h1, h2, h3, h4⟩
      by_cases e : o = u
      · subst e
        simp [St.ob_putO] at h1
        obtain ⟨rfl, rfl⟩ := h1
        by_cases ek : j = k
        · subst ek
          simp [hjl] at h3
          exact absurd h3 (hno _ _)
        · simp [ek] at h3
          exact ⟨by simp; exact fun x => ek x.symm, row, cs, b2, ho, h2, h3, h4⟩
      · simp [St.ob_putO, e] at h1
        exact ⟨by simp; exact fun x => absurd x.symm e, row2, cs', b2, h1, h2, h3, h4⟩
  refine ⟨⟨h.env, h.heap, h.size, ?_, ?_, by rw [hL]; exact h.inj, by rw [hL]; exact h.objH, by rw [hL]; exact h.objF, h.Flt, fun ℓ sz xs b off n c x => by rw [hL]; exact h.own _ _ _ _ _ _ _ (ha _ _ _ _ _ _ _ x).2, ?_, ?_, h.base⟩, ?_⟩
  · intro u hu
    by_cases e : o = u
    · subst e; simp [St.ob_putO] at hu
    · simp [St.ob_putO, e] at hu; exact h.dom u hu
  · intro u y hy hay
    by_cases e : o = u
    · subst e
      simp [St.ob_putO] at hy
      subst hy
      refine .inl ⟨b, hb, vs, ty, hblk, ?_, fun hr' => ?_⟩
      · rw [List.length_set]
        refine RepC.of_get (by rw [List.length_set]; exact hlen) fun k hk hk' => ?_
        rw [List.getElem_set]
        have hg := hrep.get k (by simpa using hk) hk'
        by_cases ek : j = k
        · subst ek
          simp only [if_pos, hwe]
          rw [hjx] at hg
          exact ⟨isCell_weak1 hg.1, hg.2.1, hg.2.2.weak1⟩
        · simp only [if_neg ek]
          exact hg
      · rw [rowOk_iff]
        intro y hy
        rcases List.mem_or_eq_of_mem_set hy with hy | rfl
        · exact rowOk_iff.1 (hro hr') y hy
        · exact pure1_weak (rowOk_iff.1 (hro hr') x (List.mem_of_getElem? hj))
    · simp [St.ob_putO, e] at hy
      exact h.obs u y hy hay
  · rintro ℓ ℓ' b' ⟨sz1, xs1, off1, n1, c1, h1⟩ ⟨sz2, xs2, off2, n2, c2, h2⟩
    exact h.ownInj ℓ ℓ' b' ⟨_, _, _, _, _, (ha _ _ _ _ _ _ _ h1).2⟩ ⟨_, _, _, _, _, (ha _ _ _ _ _ _ _ h2).2⟩
  · intro k hk
    rw [St.ob_putO] at hk
    split at hk
    · rename_i e; exact h.par k (by rw [← e, ho]; simp)
    · exact h.par k hk
  · rintro b' hb' ℓ ⟨sz1, xs1, off1, n1, c1, h1⟩
    have := ha _ _ _ _ _ _ _ h1
    exact this.1 (h.ownInj ℓ (.o o j) b' ⟨_, _, _, _, _, this.2⟩ hb')

/-- H and more cells of one block. -/
def Heap.row (H : Heap) (b off : Nat) (vs : List Value) : Heap := ⟨fun b' k => if b' = b ∧ off ≤ k ∧ k < off + vs.length then vs[k - off]? else H b' k, H.size⟩
theorem Heap.row_at (H : Heap) (b off : Nat) (vs : List Value) (j : Nat) (hj : j < vs.length) : H.row b off vs b (off + j) = some vs[j] := by
  simp [Heap.row, hj]
theorem Heap.row_ne (H : Heap) (b off : Nat) (vs : List Value) (b' k : Nat) (h : b' ≠ b) : H.row b off vs b' k = H b' k := by simp [Heap.row, h]
theorem Heap.row_le (H : Heap) (b off : Nat) (vs : List Value) (h : ∀ k, off ≤ k → H b k = none) : Le H (H.row b off vs) := by
  refine ⟨fun b' k v hv => ?_, fun _ => Nat.le_refl _⟩
  simp only [Heap.row]
  split
  · rename_i hc
    obtain ⟨rfl, h1, _⟩ := hc
    rw [h k h1] at hv
    simp at hv
  · exact hv
/-- H and a block's size. -/
def Heap.put (H : Heap) (b n : Nat) : Heap := ⟨H.cell, fun b' => if b' = b then n else H.size b'⟩
theorem Heap.put_le (H : Heap) (b n : Nat) (h : H.size b ≤ n) : Le H (H.put b n) := by
  refine ⟨fun _ _ _ h => h, fun b' => ?_⟩
  simp only [Heap.put]
  split
  · rename_i e; subst e; exact h
  · exact Nat.le_refl _

/-- Cells that nobody reads are written: of a block that is nobody's row and no object. -/
theorem Rel.fill1 (h : Rel H μ F st tm w) {b k top : Nat} (ho : OwnAt H (live st μ) F w b k top) (hf : ∀ ℓ, ¬ Holds μ st tm w ℓ b) (hk : k < top) (v : Value) (H0 : Heap)
    (h0 : ∀ b' k', ¬ (b' = b ∧ k' = k) → H0 b' k' = H b' k') (h1 : H0 b k = some v) (hs : H0.size = H.size) :
    Rel H0 μ F st tm (w.setCell ⟨b, k, none⟩ v) ∧ OwnAt H0 (live st μ) F (w.setCell ⟨b, k, none⟩ v) b (k + 1) top ∧ (∀ ℓ, ¬ Holds μ st tm (w.setCell ⟨b, k, none⟩ v) ℓ b) ∧ Ext F H w H0 (w.setCell ⟨b, k, none⟩ v) := by
  obtain ⟨⟨vs, ty, hblk, htop⟩, hfree, hnoobj, hnofr⟩ := ho
  have hle : Le H H0 := by
    refine ⟨fun b' k' u hu => ?_, fun _ => by rw [hs]; exact Nat.le_refl _⟩
    rw [h0 b' k' (fun e => by obtain ⟨rfl, rfl⟩ := e; rw [hfree k' (Nat.le_refl _) hk] at hu; simp at hu)]
    exact hu
  have hne : ∀ u b', live st μ u = some b' → b' ≠ b := fun u b' hu e => hnoobj u (e ▸ hu)
  have hat : ∀ ℓ x u, atL μ st tm (w.setCell ⟨b, k, none⟩ v) ℓ x u ↔ atL μ st tm w ℓ x u := by
    intro ℓ x u
    cases ℓ with
    | t m => exact Iff.rfl
    | o o j =>
      constructor
      · rintro ⟨row, cs, b', h1, h2, h3, h4⟩
        exact ⟨row, cs, b', h1, h2, h3, by rwa [cell?_eq (setCell_heap _ _ _ _ _ (hne o b' (h.cellsLive h1 h2)))] at h4⟩
      · rintro ⟨row, cs, b', h1, h2, h3, h4⟩
        exact ⟨row, cs, b', h1, h2, h3, by rwa [cell?_eq (setCell_heap _ _ _ _ _ (hne o b' (h.cellsLive h1 h2)))]⟩
  have hho : ∀ ℓ b', Holds μ st tm (w.setCell ⟨b, k, none⟩ v) ℓ b' ↔ Holds μ st tm w ℓ b' := by simp [Holds, hat]
  refine ⟨⟨fun t => (h.env t).mono hle (fun _ _ x => x), ?_, fun b' => by rw [hs, setCell_blk hblk]; exact h.size b', h.dom, ?_, h.inj, ?_, h.objF, by rw [setCell_size]; exact h.Flt, ?_, ?_, h.par, h.base.trans hle⟩, ?_, ?_, ?_⟩
  · intro b' k' u hu
    by_cases e : b' = b ∧ k' = k
    · obtain ⟨rfl, rfl⟩ := e
      rw [cell?_set_same hblk _ _ (by omega), ← h1]
      exact hu
    · rw [h0 b' k' e] at hu
      have := h.heap b' k' u hu
      by_cases eb : b' = b
      · subst eb
        rw [cell?_set hblk k k' v (fun x => e ⟨rfl, x⟩)]
        exact this
      · rw [cell?_eq (setCell_heap _ _ _ _ _ eb)]
        exact this
  · intro u x hx hax
    rcases h.obs u x hx hax with ⟨b', h2, h3⟩ | h2
    · refine .inl ⟨b', h2, h3.keep (setCell_heap _ _ _ _ _ (hne u b' (live_of h2 ?_))) hle (fun _ _ x => x)⟩
      rw [hx]
      intro e'
      injection e' with e'
      subst e'
      simp [Ob.alive] at hax
    · exact .inr h2
  · intro u b' hb' k'
    rw [h0 b' k' (fun e => hne u b' hb' e.1)]
    exact h.objH u b' hb' k'
  · intro ℓ sz xs b' off n c hl
    have hl' := (hat _ _ _).1 hl
    have hne' : b' ≠ b := fun e => hf ℓ ⟨sz, xs, off, n, c, e ▸ hl'⟩
    obtain ⟨⟨vs', ty', h2, h3⟩, h4, h5, h6⟩ := h.own _ _ _ _ _ _ _ hl'
    exact ⟨⟨vs', ty', by rw [setCell_heap _ _ _ _ _ hne']; exact h2, h3⟩, fun k' hk' => by rw [h0 b' k' (fun e => hne' e.1)]; exact h4 k' hk', h5, h6⟩
  · intro ℓ ℓ' b' x y
    exact h.ownInj ℓ ℓ' b' ((hho _ _).1 x) ((hho _ _).1 y)
  · exact ⟨⟨_, ty, setCell_heap_same hblk k v, by simpa using htop⟩, fun k' hk' hk2 => by rw [h0 b k' (by omega)]; exact hfree k' (by omega) hk2, hnoobj, hnofr⟩
  · exact fun ℓ x => hf ℓ ((hho _ _).1 x)
  · refine ⟨⟨rfl, rfl, rfl⟩, hle, by rw [setCell_size]; exact Nat.le_refl _, fun b' hF _ => setCell_heap _ _ _ _ _ (fun e => hnofr (e ▸ hF)), fun b' hF _ k' => h0 b' k' (fun e => hnofr (e.1 ▸ hF))⟩

/-- A map's entries change. -/
theorem Rel.setMap (h : Rel H μ F st tm w) {o : Oid} {b : Nat} (hb : μ o = some b) {base base' : Nat} {l l' : List (V × V)} (ho : st.ob o = some (.map base l)) {es : Array MapEntry}
    (hh : w'.heap = w.heap.setIfInBounds b (.map es (base' + l'.length))) (hio : Io w w') (hm : RepM H base' l' es.toList) : Rel H μ F (st.putO o (.map base' l')) tm w' ∧ Ext F H w H w' := by
  have hlb : live st μ o = some b := live_of hb (by rw [ho]; simp)
  obtain ⟨y, hy, hay, hob, hlt⟩ := h.obLt hlb
  rw [ho] at hy
  injection hy with hy
  subst hy
  obtain ⟨es0, hblk, _⟩ := hob
  have hne : ∀ b', b' ≠ b → w'.heap[b']? = w.heap[b']? := by
    intro b' hb'
    rw [hh, Array.getElem?_setIfInBounds]
    simp [Ne.symm hb']
  have hsame : w'.heap[b]? = some (.map es (base' + l'.length)) := by rw [hh, Array.getElem?_setIfInBounds]; simp [hlt]
  have hcell : ∀ b' k, w'.cell? ⟨b', k, none⟩ = w.cell? ⟨b', k, none⟩ := by
    intro b' k
    by_cases e : b' = b
    · subst e; simp [World.cell?, hsame, hblk]
    · exact cell?_eq (hne b' e) k
  have hL : live (st.putO o (.map base' l')) μ = live st μ := funext fun u => live_set rfl ho rfl
  have ha : ∀ ℓ x v, atL μ (st.putO o (.map base' l')) tm w' ℓ x v → atL μ st tm w ℓ x v := by
    intro ℓ x v hl
    cases ℓ with
    | t m => exact hl
    | o u k =>
      obtain ⟨row, cs, b2, h1, h2, h3, h4⟩ := hl
      rw [St.ob_putO] at h1
      split at h1
      · simp at h1
      · rw [hcell] at h4
        exact ⟨row, cs, b2, h1, h2, h3, h4⟩
  have hob' : ∀ u b', live st μ u = some b' → u ≠ o → b' ≠ b := fun u b' hu hne he => hne (h.inj u o b (he ▸ hu) hlb)
  refine ⟨⟨h.env, fun b' k v hv => by rw [hcell]; exact h.heap b' k v hv, fun b' => ?_, ?_, ?_, by rw [hL]; exact h.inj, by rw [hL]; exact h.objH, by rw [hL]; exact h.objF, by rw [hh]; simpa using h.Flt, ?_, ?_, ?_, h.base⟩, ?_⟩
  · by_cases e : b' = b
    · subst e
      have := h.size b'
      simp [blkSize, hblk] at this
      omega
    · rw [blkSize_eq (hne b' e)]; exact h.size b'
  · intro u hu
    rw [St.ob_putO] at hu
    split at hu
    · simp at hu
    · exact h.dom u hu
  · intro u x hx hax
    rw [St.ob_putO] at hx
    split at hx
    · rename_i e
      subst e
      injection hx with hx
      subst hx
      exact .inl ⟨b, hb, es, hsame, hm⟩
    · rename_i e
      rcases h.obs u x hx hax with ⟨b', h2, h3⟩ | h2
      · refine .inl ⟨b', h2, h3.keep (hne _ (hob' u b' (live_of h2 ?_) (Ne.symm e))) (Le.refl _) (fun _ _ x => x)⟩
        rw [hx]
        intro e'
        injection e' with e'
        subst e'
        simp [Ob.alive] at hax
      · exact .inr h2
  · intro ℓ sz xs b' off n c hl
    rw [hL]
    obtain ⟨⟨vs', ty', h2, h3⟩, h4, h5, h6⟩ := h.own _ _ _ _ _ _ _ (ha _ _ _ hl)
    exact ⟨⟨vs', ty', by rw [hne b' (fun e => h5 o (e ▸ hlb))]; exact h2, h3⟩, h4, h5, h6⟩
  · rintro ℓ ℓ' b' ⟨sz1, xs1, off1, n1, c1, h1⟩ ⟨sz2, xs2, off2, n2, c2, h2⟩
    exact h.ownInj ℓ ℓ' b' ⟨_, _, _, _, _, ha _ _ _ h1⟩ ⟨_, _, _, _, _, ha _ _ _ h2⟩
  · intro k hk
    rw [St.ob_putO] at hk
    split at hk
    · rename_i e; exact h.par k (by rw [← e, ho]; simp)
    · exact h.par k hk
  · exact ⟨hio, Le.refl _, by rw [hh]; simp, fun b' hF _ => hne b' (fun e => h.objF o b hlb (e ▸ hF)), fun _ _ _ _ => rfl⟩
end
end Go.Ax
