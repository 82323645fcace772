/- A part of the proof of a law of this seat: no condition. -/
import Derived.Test.YtblmmaecklgbhaaAxRel
set_option linter.unusedVariables false
set_option linter.unusedSimpArgs false
namespace Go.Ax

theorem look_cons (t u : Nat) (v : V) (r : List (Nat × V)) : look t ((u, v) :: r) = if u = t then v else look t r := rfl
attribute [local simp] look_cons
theorem St.tm_put (st : St) (t u : Nat) (v : V) : (st.put t v).tm u = if t = u then v else st.tm u := rfl
theorem St.tm_putO (st : St) (o : Oid) (x : Ob) (u : Nat) : (st.putO o x).tm u = st.tm u := rfl
theorem St.ob_put (st : St) (t : Nat) (v : V) (o : Oid) : (st.put t v).ob o = st.ob o := rfl
theorem St.ob_putO (st : St) (o u : Oid) (x : Ob) : (st.putO o x).ob u = if o = u then some x else st.ob u := rfl

def upd (tm : Nat → Value) (t : Nat) (v : Value) : Nat → Value := fun u => if u = t then v else tm u

inductive Loc where
  | t (n : Nat)
  | o (o : Oid) (j : Nat)

def atL (μ : Oid → Option Nat) (st : St) (tm : Nat → Value) (w : World) : Loc → V → Value → Prop
  | .t n, x, v => st.tm n = x ∧ tm n = v
  | .o o j, x, v => ∃ row cs b, st.ob o = some (.cells row cs) ∧ μ o = some b ∧ cs[j]? = some x ∧ w.cell? ⟨b, j, none⟩ = some v

def Holds (μ : Oid → Option Nat) (st : St) (tm : Nat → Value) (w : World) (ℓ : Loc) (b : Nat) : Prop :=
  ∃ sz xs off n c, atL μ st tm w ℓ (.own sz xs) (.slice (some ⟨b, off, none⟩) n c)

/-- What a call may not touch, and where its caller's objects lie. -/
structure Fr where
  F : Nat → Prop
  G : Nat → Option Nat
  B : Heap
instance : CoeFun Fr (fun _ => Nat → Prop) := ⟨Fr.F⟩

/-- Where objects lie that somebody may use. -/
def live (st : St) (μ : Oid → Option Nat) (o : Oid) : Option Nat :=
  match st.ob o with
  | some .dead => none
  | _ => μ o
def blkSize (w : World) (b : Nat) : Nat :=
  match w.heap[b]? with
  | some (.cells vs _ _) => vs.size
  | _ => 0

structure OwnAt (H : Heap) (μ : Oid → Option Nat) (F : Fr) (w : World) (b e top : Nat) : Prop where
  blk : ∃ vs ty, w.heap[b]? = some (.cells vs ty (0, 0)) ∧ top ≤ vs.size
  free : ∀ k, e ≤ k → k < top → H b k = none
  noobj : ∀ o, μ o ≠ some b
  nofr : ¬ F b

structure RepM (H : Heap) (base : Nat) (l : List (V × V)) (es : List MapEntry) : Prop where
  len : l.length = es.length
  get : ∀ j (hj : j < l.length) (hj' : j < es.length), es[j].born = base + j ∧ RepD H l[j].1 es[j].key ∧ RepD H l[j].2 es[j].val
def RepOb (H : Heap) (μ : Oid → Option Nat) (w : World) (b : Nat) : Ob → Prop
  | .cells row cs => ∃ vs ty, w.heap[b]? = some (.cells vs ty (0, 0)) ∧ RepC H μ cs (vs.toList.take cs.length) ∧ (row = true → rowOk cs = true)
  | .map base l => ∃ es, w.heap[b]? = some (.map es (base + l.length)) ∧ RepM H base l es.toList
  | .dead => True

structure Rel (H : Heap) (μ : Oid → Option Nat) (F : Fr) (st : St) (tm : Nat → Value) (w : World) : Prop where
  env : ∀ t, RepS H μ (st.tm t) (tm t)
  heap : ∀ b o v, H b o = some v → w.cell? ⟨b, o, none⟩ = some v
  size : ∀ b, H.size b ≤ blkSize w b
  dom : ∀ o, st.ob o = none → μ o = none
  obs : ∀ o x, st.ob o = some x → x.alive = true → (∃ b, μ o = some b ∧ RepOb H μ w b x) ∨ (x = .cells true [] ∧ μ o = none)
  inj : ∀ o o' b, live st μ o = some b → live st μ o' = some b → o = o'
  objH : ∀ o b, live st μ o = some b → ∀ k, H b k = none
  objF : ∀ o b, live st μ o = some b → ¬ F b
  Flt : ∀ b, F b → b < w.heap.size
  own : ∀ ℓ sz xs b off n c, atL μ st tm w ℓ (.own sz xs) (.slice (some ⟨b, off, none⟩) n c) → OwnAt H (live st μ) F w b (off + n * sz) (off + c * sz)
  ownInj : ∀ ℓ ℓ' b, Holds μ st tm w ℓ b → Holds μ st tm w ℓ' b → ℓ = ℓ'
  par : ∀ j, st.ob (.par j) ≠ none → μ (.par j) = F.G j
  base : Le F.B H

/-- The streams are as they were. -/
def Io (w w' : World) : Prop := w'.os = w.os ∧ w'.tape = w.tape ∧ w'.output = w.output
theorem Io.refl (w : World) : Io w w := ⟨rfl, rfl, rfl⟩
theorem Io.trans {a b c : World} (h : Io a b) (k : Io b c) : Io a c := ⟨k.1.trans h.1, k.2.1.trans h.2.1, k.2.2.trans h.2.2⟩
structure Ext (F : Fr) (H : Heap) (w : World) (H' : Heap) (w' : World) : Prop where
  io : Io w w'
  le : Le H H'
  size : w.heap.size ≤ w'.heap.size
  frm : ∀ b, F b → b < w.heap.size → w'.heap[b]? = w.heap[b]?
  frH : ∀ b, F b → b < w.heap.size → ∀ k, H' b k = H b k
theorem Ext.refl (F H w) : Ext F H w H w := ⟨Io.refl _, Le.refl _, Nat.le_refl _, fun _ _ _ => rfl, fun _ _ _ _ => rfl⟩
theorem Ext.trans {F H w H' w' H'' w''} (h : Ext F H w H' w') (h' : Ext F H' w' H'' w'') : Ext F H w H'' w'' :=
  ⟨h.io.trans h'.io, h.le.trans h'.le, Nat.le_trans h.size h'.size, fun b hb hlt => (h'.frm b hb (Nat.lt_of_lt_of_le hlt h.size)).trans (h.frm b hb hlt),
    fun b hb hlt k => (h'.frH b hb (Nat.lt_of_lt_of_le hlt h.size) k).trans (h.frH b hb hlt k)⟩
theorem Ext.sub {F F' H w H' w'} (h : Ext F' H w H' w') (hs : ∀ b, F b → F' b) : Ext F H w H' w' :=
  ⟨h.io, h.le, h.size, fun b hb => h.frm b (hs b hb), fun b hb => h.frH b (hs b hb)⟩
theorem Ext.world {F H} {w w' : World} (hh : w'.heap = w.heap) (hi : Io w w') : Ext F H w H w' :=
  ⟨hi, Le.refl _, by rw [hh]; exact Nat.le_refl _, fun _ _ _ => by rw [hh], fun _ _ _ _ => rfl⟩

theorem cell?_eq {w w' : World} {b : Nat} (h : w'.heap[b]? = w.heap[b]?) (k : Nat) : w'.cell? ⟨b, k, none⟩ = w.cell? ⟨b, k, none⟩ := by
  simp [World.cell?, h]
theorem blkSize_eq {w w' : World} {b : Nat} (h : w'.heap[b]? = w.heap[b]?) : blkSize w' b = blkSize w b := by
  simp [blkSize, h]
theorem blkSize_of {w : World} {b : Nat} {vs : Array Value} {ty fr} (h : w.heap[b]? = some (.cells vs ty fr)) : blkSize w b = vs.size := by
  simp [blkSize, h]
theorem blkSize_lt {w : World} {b : Nat} (h : 0 < blkSize w b) : b < w.heap.size := by
  unfold blkSize at h
  split at h
  · rename_i hb; exact (Array.getElem?_eq_some_iff.1 hb).1
  · omega
theorem cell?_of {w : World} {b : Nat} {vs : Array Value} {ty fr} (h : w.heap[b]? = some (.cells vs ty fr)) (k : Nat) : w.cell? ⟨b, k, none⟩ = vs[k]? := by
  simp [World.cell?, h]
theorem cell?_lt {w : World} {b k : Nat} {v : Value} (h : w.cell? ⟨b, k, none⟩ = some v) : b < w.heap.size := by
  simp only [World.cell?] at h
  split at h
  · rename_i hb
    exact (Array.getElem?_eq_some_iff.1 hb).1
  · simp at h
theorem RepOb.keep {H H' : Heap} {μ μ' : Oid → Option Nat} {w w' : World} {b : Nat} {x : Ob} (h : RepOb H μ w b x) (hh : w'.heap[b]? = w.heap[b]?) (hl : Le H H') (hm : LeM μ μ') : RepOb H' μ' w' b x := by
  cases x with
  | cells row cs => obtain ⟨vs, ty, h1, h2, h3⟩ := h; exact ⟨vs, ty, by rw [hh]; exact h1, h2.mono hl hm, h3⟩
  | map base l => obtain ⟨es, h1, h2⟩ := h; exact ⟨es, by rw [hh]; exact h1, h2.len, fun j hj hj' => ⟨(h2.get j hj hj').1, (h2.get j hj hj').2.1.mono hl, (h2.get j hj hj').2.2.mono hl⟩⟩
  | dead => trivial
theorem RepOb.lt {H : Heap} {μ : Oid → Option Nat} {w : World} {b : Nat} {x : Ob} (h : RepOb H μ w b x) (ha : x.alive = true) : b < w.heap.size := by
  cases x with
  | cells row cs => obtain ⟨vs, ty, h1, _⟩ := h; exact (Array.getElem?_eq_some_iff.1 h1).1
  | map base l => obtain ⟨es, h1, _⟩ := h; exact (Array.getElem?_eq_some_iff.1 h1).1
  | dead => simp [Ob.alive] at ha

section
variable {H H' : Heap} {μ μ' : Oid → Option Nat} {F : Fr} {st st' : St} {tm tm' : Nat → Value} {w w' : World}

theorem live_some {o b} (h : live st μ o = some b) : μ o = some b ∧ st.ob o ≠ some .dead := by
  unfold live at h
  split at h
  · simp at h
  · rename_i hn; exact ⟨h, fun e => hn e⟩
theorem live_of {o b} (h : μ o = some b) (hd : st.ob o ≠ some .dead) : live st μ o = some b := by
  unfold live
  split
  · rename_i e; exact absurd e hd
  · exact h
theorem live_congr (h : ∀ o, st'.ob o = st.ob o) : live st' μ = live st μ := by funext o; simp [live, h]
theorem live_put {t v} : live (st.put t v) μ = live st μ := rfl
theorem Rel.congr (h : Rel H μ F st tm w) (h1 : ∀ t, st'.tm t = st.tm t) (h2 : ∀ o, st'.ob o = st.ob o) : Rel H μ F st' tm w := by
  have ha : ∀ ℓ x v, atL μ st' tm w ℓ x v ↔ atL μ st tm w ℓ x v := by
    intro ℓ x v
    cases ℓ <;> simp [atL, h1, h2]
  have hh : ∀ ℓ b, Holds μ st' tm w ℓ b ↔ Holds μ st tm w ℓ b := by simp [Holds, ha]
  have hL : live st' μ = live st μ := live_congr h2
  exact ⟨fun t => by rw [h1]; exact h.env t, h.heap, h.size, fun o => by rw [h2]; exact h.dom o, fun o x => by rw [h2]; exact h.obs o x, by rw [hL]; exact h.inj, by rw [hL]; exact h.objH, by rw [hL]; exact h.objF, h.Flt,
    fun ℓ sz xs b off n c hl => by rw [hL]; exact h.own ℓ sz xs b off n c ((ha _ _ _).1 hl), fun ℓ ℓ' b x y => h.ownInj ℓ ℓ' b ((hh _ _).1 x) ((hh _ _).1 y), fun j => by rw [h2]; exact h.par j, h.base⟩
theorem Rel.tmCongr (h : Rel H μ F st tm w) (h1 : ∀ t, tm' t = tm t) : Rel H μ F st tm' w := by
  obtain rfl : tm' = tm := funext h1
  exact h
theorem Rel.obLt (h : Rel H μ F st tm w) {o b} (hb : live st μ o = some b) : ∃ x, st.ob o = some x ∧ x.alive = true ∧ RepOb H μ w b x ∧ b < w.heap.size := by
  obtain ⟨hm, hd⟩ := live_some hb
  cases hx : st.ob o with
  | none => rw [h.dom o hx] at hm; simp at hm
  | some x =>
    have ha : x.alive = true := by cases x <;> simp_all [Ob.alive]
    rcases h.obs o x hx ha with ⟨b', hb', hr⟩ | ⟨_, hn⟩
    · rw [hm] at hb'
      injection hb' with hb'
      subst hb'
      exact ⟨x, rfl, ha, hr, hr.lt ha⟩
    · rw [hm] at hn; simp at hn
theorem Rel.cellsLive (h : Rel H μ F st tm w) {o row cs b} (ho : st.ob o = some (.cells row cs)) (hb : μ o = some b) : live st μ o = some b := live_of hb (by rw [ho]; simp)
theorem Rel.cellsAt (h : Rel H μ F st tm w) {o row cs b} (ho : st.ob o = some (.cells row cs)) (hb : μ o = some b) :
    ∃ vs ty, w.heap[b]? = some (.cells vs ty (0, 0)) ∧ RepC H μ cs (vs.toList.take cs.length) ∧ (row = true → rowOk cs = true) := by
  rcases h.obs o _ ho rfl with ⟨b', hb', hr⟩ | ⟨_, hn⟩
  · rw [hb] at hb'; injection hb' with hb'; subst hb'; exact hr
  · rw [hb] at hn; simp at hn
/-- An object with cells lies somewhere. -/
theorem Rel.cellsSome (h : Rel H μ F st tm w) {o row cs} (ho : st.ob o = some (.cells row cs)) (hne : row = false ∨ cs ≠ []) :
    ∃ b vs ty, μ o = some b ∧ live st μ o = some b ∧ w.heap[b]? = some (.cells vs ty (0, 0)) ∧ RepC H μ cs (vs.toList.take cs.length) ∧ (row = true → rowOk cs = true) := by
  rcases h.obs o _ ho rfl with ⟨b, hb, vs, ty, h1, h2, h3⟩ | ⟨e, hn⟩
  · exact ⟨b, vs, ty, hb, h.cellsLive ho hb, h1, h2, h3⟩
  · simp at e
    rcases hne with hne | hne
    · rw [hne] at e; simp at e
    · exact absurd e.2 hne
theorem Rel.atLive (h : Rel H μ F st tm w) {o j x v} (hl : atL μ st tm w (.o o j) x v) : ∃ b, live st μ o = some b ∧ b < w.heap.size := by
  obtain ⟨row, cs, b, h1, h2, h3, h4⟩ := hl
  have := h.cellsLive h1 h2
  exact ⟨b, this, (h.obLt this).choose_spec.2.2.2⟩

/-- Another world, the same cells; and rows that are new. -/
theorem Rel.push (h : Rel H μ F st tm w) (ob : Obj) (hh : w'.heap = w.heap.push ob) (hl : Le H H')
    (hnew : ∀ b k, b ≠ w.heap.size → H' b k = H b k) (hcell : ∀ k v, H' w.heap.size k = some v → w'.cell? ⟨w.heap.size, k, none⟩ = some v)
    (hsz : ∀ b, b ≠ w.heap.size → H'.size b = H.size b) (hsz' : H'.size w.heap.size ≤ blkSize w' w.heap.size) : Rel H' μ F st tm w' := by
  have hb : ∀ b, b < w.heap.size → w'.heap[b]? = w.heap[b]? := by
    intro b hb
    rw [hh, Array.getElem?_push]
    simp [Nat.ne_of_lt hb]
  have ho : ∀ o b, live st μ o = some b → b < w.heap.size := fun o b x => (h.obLt x).choose_spec.2.2.2
  have ha : ∀ ℓ x v, atL μ st tm w' ℓ x v → atL μ st tm w ℓ x v := by
    intro ℓ x v
    cases ℓ with
    | t n => exact id
    | o o j =>
      rintro ⟨row, cs, b, h1, h2, h3, h4⟩
      exact ⟨row, cs, b, h1, h2, h3, by rw [← cell?_eq (hb b (ho o b (h.cellsLive h1 h2)))]; exact h4⟩
  refine ⟨fun t => (h.env t).mono hl (fun _ _ x => x), ?_, ?_, h.dom, ?_, h.inj, ?_, h.objF, fun b x => by rw [hh]; simp; have := h.Flt b x; omega, ?_, ?_, h.par, h.base.trans hl⟩
  · intro b o v hv
    by_cases e : b = w.heap.size
    · subst e; exact hcell _ _ hv
    · rw [hnew b o e] at hv
      have := h.heap b o v hv
      rw [cell?_eq (hb b (cell?_lt this))]
      exact this
  · intro b
    by_cases e : b = w.heap.size
    · rw [e]; exact hsz'
    · rw [hsz b e]
      by_cases h0 : b < w.heap.size
      · rw [blkSize_eq (hb b h0)]; exact h.size b
      · have h1 := h.size b
        have : ¬ 0 < blkSize w b := fun hp => h0 (blkSize_lt hp)
        omega
  · intro o x hx hax
    rcases h.obs o x hx hax with ⟨b, h1, h2⟩ | h1
    · exact .inl ⟨b, h1, h2.keep (hb b (h2.lt hax)) hl (fun _ _ x => x)⟩
    · exact .inr h1
  · intro o b hb' k
    rw [hnew b k (Nat.ne_of_lt (ho o b hb'))]
    exact h.objH o b hb' k
  · intro ℓ sz xs b off n c hl'
    have := h.own ℓ sz xs b off n c (ha _ _ _ hl')
    obtain ⟨⟨vs, ty, h1, h2⟩, h3, h4, h5⟩ := this
    have hlt : b < w.heap.size := (Array.getElem?_eq_some_iff.1 h1).1
    exact ⟨⟨vs, ty, by rw [hb b hlt]; exact h1, h2⟩, fun k hk => by rw [hnew b k (Nat.ne_of_lt hlt)]; exact h3 k hk, h4, h5⟩
  · intro ℓ ℓ' b h1 h2
    obtain ⟨sz, xs, off, n, c, h1⟩ := h1
    obtain ⟨sz', xs', off', n', c', h2⟩ := h2
    exact h.ownInj ℓ ℓ' b ⟨sz, xs, off, n, c, ha _ _ _ h1⟩ ⟨sz', xs', off', n', c', ha _ _ _ h2⟩
theorem Ext.push (F : Fr) (ob : Obj) (hh : w'.heap = w.heap.push ob) (hi : Io w w') (hl : Le H H') (hnew : ∀ b k, b ≠ w.heap.size → H' b k = H b k) : Ext F H w H' w' := by
  refine ⟨hi, hl, by rw [hh]; simp, fun b _ hlt => ?_, fun b _ hlt k => hnew b k (Nat.ne_of_lt hlt)⟩
  rw [hh, Array.getElem?_push]
  simp [Nat.ne_of_lt hlt]
theorem Rel.world (h : Rel H μ F st tm w) (hh : w'.heap = w.heap) : Rel H μ F st tm w' := by
  have hc : ∀ b k, w'.cell? ⟨b, k, none⟩ = w.cell? ⟨b, k, none⟩ := fun b k => cell?_eq (by rw [hh]) k
  have ha : ∀ ℓ x v, atL μ st tm w' ℓ x v ↔ atL μ st tm w ℓ x v := by
    intro ℓ x v
    cases ℓ <;> simp [atL, hc]
  have hho : ∀ ℓ b, Holds μ st tm w' ℓ b ↔ Holds μ st tm w ℓ b := by simp [Holds, ha]
  refine ⟨h.env, fun b o v x => by rw [hc]; exact h.heap b o v x, fun b => by rw [blkSize_eq (w := w) (w' := w') (by rw [hh])]; exact h.size b, h.dom, ?_, h.inj, h.objH, h.objF, by rw [hh]; exact h.Flt, ?_, fun ℓ ℓ' b x y => h.ownInj ℓ ℓ' b ((hho _ _).1 x) ((hho _ _).1 y), h.par, h.base⟩
  · intro o x hx hax
    rcases h.obs o x hx hax with ⟨b, h1, h2⟩ | h1
    · exact .inl ⟨b, h1, h2.keep (by rw [hh]) (Le.refl _) (fun _ _ x => x)⟩
    · exact .inr h1
  · intro ℓ sz xs b off n c hl
    obtain ⟨h1, h2, h3, h4⟩ := h.own ℓ sz xs b off n c ((ha _ _ _).1 hl)
    exact ⟨by rw [hh]; exact h1, h2, h3, h4⟩

/-- A tmp gets a value that is no row of its own. -/
theorem Rel.put (h : Rel H μ F st tm w) {t : Nat} {x : V} {v : Value} (hx : RepS H μ x v) (hno : ∀ sz xs b off n c, x = .own sz xs → v ≠ .slice (some ⟨b, off, none⟩) n c) :
    Rel H μ F (st.put t x) (upd tm t v) w := by
  have ha : ∀ ℓ sz xs b off n c, atL μ (st.put t x) (upd tm t v) w ℓ (.own sz xs) (.slice (some ⟨b, off, none⟩) n c) → ℓ ≠ .t t ∧ atL μ st tm w ℓ (.own sz xs) (.slice (some ⟨b, off, none⟩) n c) := by
    intro ℓ sz xs b off n c
    cases ℓ with
    | t m =>
      rintro ⟨h1, h2⟩
      by_cases e : t = m
      · subst e
        simp [St.tm_put, upd] at h1 h2
        exact absurd h2 (hno _ _ _ _ _ _ h1)
      · simp [St.tm_put, upd, e, Ne.symm e] at h1 h2
        exact ⟨by simp; exact fun x => e x.symm, h1, h2⟩
    | o o j => exact fun x => ⟨by simp, x⟩
  refine ⟨fun u => ?_, h.heap, h.size, h.dom, h.obs, h.inj, h.objH, h.objF, h.Flt, fun ℓ sz xs b off n c x => h.own ℓ sz xs b off n c (ha _ _ _ _ _ _ _ x).2, ?_, h.par, h.base⟩
  · by_cases e : t = u
    · subst e; simpa [St.tm_put, upd] using hx
    · simpa [St.tm_put, upd, e, Ne.symm e] using h.env u
  · rintro ℓ ℓ' b ⟨sz, xs, off, n, c, h1⟩ ⟨sz', xs', off', n', c', h2⟩
    exact h.ownInj ℓ ℓ' b ⟨sz, xs, off, n, c, (ha _ _ _ _ _ _ _ h1).2⟩ ⟨sz', xs', off', n', c', (ha _ _ _ _ _ _ _ h2).2⟩
/-- A tmp gets a row that nobody else has. -/
theorem Rel.putOwn (h : Rel H μ F st tm w) {t sz : Nat} {xs : List V} {b off c : Nat} (hx : Rep1 H μ (.own sz xs) (.slice (some ⟨b, off, none⟩) xs.length c))
    (ho : OwnAt H (live st μ) F w b (off + xs.length * sz) (off + c * sz)) (hf : ∀ ℓ, ¬ Holds μ st tm w ℓ b) :
    Rel H μ F (st.put t (.own sz xs)) (upd tm t (.slice (some ⟨b, off, none⟩) xs.length c)) w := by
  have ha : ∀ ℓ sz' xs' b' off' n' c', atL μ (st.put t (.own sz xs)) (upd tm t (.slice (some ⟨b, off, none⟩) xs.length c)) w ℓ (.own sz' xs') (.slice (some ⟨b', off', none⟩) n' c') →
      (ℓ = .t t ∧ b' = b ∧ OwnAt H (live st μ) F w b' (off' + n' * sz') (off' + c' * sz')) ∨ atL μ st tm w ℓ (.own sz' xs') (.slice (some ⟨b', off', none⟩) n' c') := by
    intro ℓ sz' xs' b' off' n' c'
    cases ℓ with
    | t m =>
      rintro ⟨h1, h2⟩
      by_cases e : t = m
      · subst e
        simp [St.tm_put, upd] at h1 h2
        obtain ⟨rfl, rfl⟩ := h1
        obtain ⟨⟨rfl, rfl⟩, rfl, rfl⟩ := h2
        exact .inl ⟨rfl, rfl, ho⟩
      · simp [St.tm_put, upd, e, Ne.symm e] at h1 h2
        exact .inr ⟨h1, h2⟩
    | o o j => exact .inr
  refine ⟨fun u => ?_, h.heap, h.size, h.dom, h.obs, h.inj, h.objH, h.objF, h.Flt, fun ℓ sz' xs' b' off' n' c' x => ?_, ?_, h.par, h.base⟩
  · by_cases e : t = u
    · subst e
      simp only [St.tm_put, upd, if_pos]
      exact .two _ _ (.one _ _ hx)
    · simpa [St.tm_put, upd, e, Ne.symm e] using h.env u
  · rcases ha _ _ _ _ _ _ _ x with ⟨_, _, h3⟩ | h3
    · exact h3
    · exact h.own _ _ _ _ _ _ _ h3
  · rintro ℓ ℓ' b' ⟨sz1, xs1, off1, n1, c1, h1⟩ ⟨sz2, xs2, off2, n2, c2, h2⟩
    rcases ha _ _ _ _ _ _ _ h1 with ⟨e1, e1', _⟩ | h3 <;> rcases ha _ _ _ _ _ _ _ h2 with ⟨e2, e2', _⟩ | h4
    · rw [e1, e2]
    · subst e1'
      exact absurd ⟨_, _, _, _, _, h4⟩ (hf ℓ')
    · subst e2'
      exact absurd ⟨_, _, _, _, _, h3⟩ (hf ℓ)
    · exact h.ownInj ℓ ℓ' b' ⟨_, _, _, _, _, h3⟩ ⟨_, _, _, _, _, h4⟩
/-- A tmp gives its row up: what it held, and that nobody holds it now. -/
theorem Rel.weakT (h : Rel H μ F st tm w) (t : Nat) : Rel H μ F (st.put t (st.tm t).weak) tm w ∧
    ∀ b, Holds μ st tm w (.t t) b → ∀ ℓ, ¬ Holds μ (st.put t (st.tm t).weak) tm w ℓ b := by
  have hu : upd tm t (tm t) = tm := by
    funext u
    by_cases e : u = t
    · subst e; simp [upd]
    · simp [upd, e]
  have hw : ∀ sz xs, (st.tm t).weak ≠ .own sz xs := by
    intro sz xs
    cases st.tm t <;> simp [V.weak]
  have h1 := h.put (t := t) (h.env t).weak (fun sz xs _ _ _ _ e => absurd e (hw sz xs))
  rw [hu] at h1
  refine ⟨h1, fun b hb ℓ hℓ => ?_⟩
  obtain ⟨sz, xs, off, n, c, hl⟩ := hℓ
  have : ℓ ≠ .t t ∧ Holds μ st tm w ℓ b := by
    cases ℓ with
    | t m =>
      obtain ⟨h2, h3⟩ := hl
      by_cases e : t = m
      · subst e
        simp [St.tm_put] at h2
        exact absurd h2 (hw _ _)
      · simp [St.tm_put, e] at h2
        exact ⟨by simp; exact fun x => e x.symm, sz, xs, off, n, c, h2, h3⟩
    | o o j => exact ⟨by simp, sz, xs, off, n, c, hl⟩
  exact this.1 (h.ownInj ℓ (.t t) b this.2 hb)
end
end Go.Ax
