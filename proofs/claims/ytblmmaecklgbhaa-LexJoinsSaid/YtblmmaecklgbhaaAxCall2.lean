/- A part of the proof of a law of this seat: no condition. -/
import Derived.Test.YtblmmaecklgbhaaAxCall
set_option linter.unusedVariables false
set_option linter.unusedSimpArgs false
namespace Go.Ax
attribute [local simp] look_cons

structure RepArgs (H : Heap) (μ : Oid → Option Nat) (args : List V) (vs : List Value) : Prop where
  len : args.length = vs.length
  get : ∀ j (hj : j < args.length) (hj' : j < vs.length), RepS H μ args[j] vs[j]
/-- What a call passes on. -/
structure Pass (st : St) (ids : List Oid) (objs : List Ob) : Prop where
  nodup : ids.Nodup
  lenO : objs.length = ids.length
  ob : ∀ j (hj : j < ids.length) (hj' : j < objs.length), st.ob ids[j] = some objs[j] ∧ objs[j].alive = true
def parMu (ids : List Oid) (μ : Oid → Option Nat) : Oid → Option Nat
  | .par j => (ids[j]?).bind μ
  | _ => none
def passF (B : Heap) (μ : Oid → Option Nat) (st : St) (tm : Nat → Value) (w : World) (ids : List Oid) (gt : Option Nat) : Fr :=
  ⟨fun b => b < w.heap.size ∧ (∀ o ∈ ids, μ o ≠ some b) ∧ (∀ o ∈ ids, ∀ j, ¬ Holds μ st tm w (.o o j) b) ∧ ∀ t, gt = some t → ¬ Holds μ st tm w (.t t) b, fun j => (ids[j]?).bind μ, B⟩
theorem weakBut_get (gv : Option (Nat × Nat)) (vs : List V) (j : Nat) : (weakBut gv vs)[j]? = (vs[j]?).map fun x => match gv with | some (i, _) => if j = i then x else x.weak | none => x.weak := by
  simp only [weakBut, List.getElem?_map, List.getElem?_zipIdx]
  cases vs[j]? with
  | none => rfl
  | some x => simp only [Option.map_some, Nat.zero_add]; rfl
theorem weakBut_len (gv : Option (Nat × Nat)) (vs : List V) : (weakBut gv vs).length = vs.length := by simp [weakBut]

section
variable {P : Program} {H H' : Heap} {μ μ' : Oid → Option Nat} {F F' : Fr} {st st' : St} {tm tm' : Nat → Value} {w w' : World}

theorem toPar_some {ids : List Oid} {o u : Oid} (h : toPar ids o = some u) : ∃ j, u = .par j ∧ ids[j]? = some o := by
  simp only [toPar] at h
  cases hp : place o ids with
  | none => rw [hp] at h; simp at h
  | some j => rw [hp] at h; simp at h; exact ⟨j, h.symm, place_some hp⟩
theorem toPar_mu {ids : List Oid} : ∀ o u b, toPar ids o = some u → μ o = some b → parMu ids μ u = some b := by
  intro o u b h1 h2
  obtain ⟨j, rfl, h3⟩ := toPar_some h1
  simp [parMu, h3, h2]
theorem parMu_some {ids : List Oid} {o : Oid} {b : Nat} (h : parMu ids μ o = some b) : ∃ j, o = .par j ∧ ∃ hj : j < ids.length, μ ids[j] = some b := by
  cases o with
  | par j =>
    simp only [parMu, Option.bind_eq_some_iff] at h
    obtain ⟨u, h1, h2⟩ := h
    obtain ⟨hj, rfl⟩ := List.getElem?_eq_some_iff.1 h1
    exact ⟨j, rfl, hj, h2⟩
  | _ => simp [parMu] at h

/-- The callee's state. -/
theorem Pass.pre {ids objs} (p : Pass st ids objs) (hr : Rel H μ F st tm w) {vs : List V} {us : List Value} (ha : RepArgs H μ vs us) {gv : Option (Nat × Nat)}
    (hg : ∀ j t, gv = some (j, t) → ∀ sz xs b off n c, vs[j]? = some (.own sz xs) → us[j]? = some (.slice (some ⟨b, off, none⟩) n c) → atL μ st tm w (.t t) (.own sz xs) (.slice (some ⟨b, off, none⟩) n c)) :
    Rel H (parMu ids μ) (passF F.B μ st tm w ids (gv.map (·.2))) (conSt ((weakBut gv vs).map (renV (toPar ids))) (objs.map (Ob.ren (toPar ids))) []) (argTm us) w := by
  have hob : ∀ o, (conSt ((weakBut gv vs).map (renV (toPar ids))) (objs.map (Ob.ren (toPar ids))) []).ob o = match o with | .par j => (objs[j]?).map (Ob.ren (toPar ids)) | _ => none := by
    intro o
    rw [conSt_ob]
    cases o with
    | par j => simp
    | sub t j => cases t <;> simp
    | _ => rfl
  have htm : ∀ t, (conSt ((weakBut gv vs).map (renV (toPar ids))) (objs.map (Ob.ren (toPar ids))) []).tm t = (((weakBut gv vs)[t]?).map (renV (toPar ids))).getD .any := by
    intro t
    rw [conSt_tm, List.getElem?_map]
  have hpl : ∀ j x, (objs[j]?).map (Ob.ren (toPar ids)) = some x → ∃ (hj : j < ids.length) (hj' : j < objs.length), x = objs[j].ren (toPar ids) ∧ st.ob ids[j] = some objs[j] ∧ objs[j].alive = true := by
    intro j x h
    rw [Option.map_eq_some_iff] at h
    obtain ⟨y, h1, rfl⟩ := h
    obtain ⟨hlt, rfl⟩ := List.getElem?_eq_some_iff.1 h1
    have hj : j < ids.length := by rw [← p.lenO]; exact hlt
    exact ⟨hj, hlt, rfl, (p.ob j hj hlt).1, (p.ob j hj hlt).2⟩
  have hlv : ∀ o b, live (conSt ((weakBut gv vs).map (renV (toPar ids))) (objs.map (Ob.ren (toPar ids))) []) (parMu ids μ) o = some b → ∃ j, o = .par j ∧ ∃ hj : j < ids.length, live st μ ids[j] = some b := by
    intro o b h
    obtain ⟨h1, _⟩ := live_some h
    obtain ⟨j, rfl, hj, h2⟩ := parMu_some h1
    refine ⟨j, rfl, hj, live_of h2 ?_⟩
    have := p.ob j hj (by rw [p.lenO]; exact hj)
    rw [this.1]
    intro e
    injection e with e
    rw [e] at this
    simp [Ob.alive] at this
  have hat : ∀ ℓ sz xs b off n c, atL (parMu ids μ) (conSt ((weakBut gv vs).map (renV (toPar ids))) (objs.map (Ob.ren (toPar ids))) []) (argTm us) w ℓ (.own sz xs) (.slice (some ⟨b, off, none⟩) n c) →
      (∃ (j k : Nat) (hj : j < ids.length), ℓ = .o (.par j) k ∧ atL μ st tm w (.o ids[j] k) (.own sz xs) (.slice (some ⟨b, off, none⟩) n c)) ∨
      (∃ j t, gv = some (j, t) ∧ ℓ = .t j ∧ atL μ st tm w (.t t) (.own sz xs) (.slice (some ⟨b, off, none⟩) n c)) := by
    intro ℓ sz xs b off n c hl
    cases ℓ with
    | t m =>
      right
      obtain ⟨h1, h2⟩ := hl
      rw [htm, weakBut_get] at h1
      cases hv : vs[m]? with
      | none => rw [hv] at h1; simp at h1
      | some x =>
        rw [hv] at h1
        simp only [Option.map_some, Option.getD_some, renV_own] at h1
        have hm : m < us.length := by rw [← ha.len]; exact (List.getElem?_eq_some_iff.1 hv).1
        have hu : us[m]? = some (.slice (some ⟨b, off, none⟩) n c) := by
          simp only [argTm, List.getElem?_eq_getElem hm, Option.getD_some] at h2
          rw [List.getElem?_eq_getElem hm, h2]
        cases gv with
        | none =>
          simp only at h1
          have := weak_not_own x
          rw [h1] at this
          simp [V.isOwn] at this
        | some q =>
          obtain ⟨i, t⟩ := q
          simp only at h1
          split at h1
          · rename_i e
            subst e
            rw [h1] at hv
            exact ⟨m, t, rfl, rfl, hg m t rfl sz xs b off n c hv hu⟩
          · have := weak_not_own x
            rw [h1] at this
            simp [V.isOwn] at this
    | o o k =>
      left
      obtain ⟨row, cs, b', h1, h2, h3, h4⟩ := hl
      rw [hob] at h1
      cases o with
      | par j =>
        obtain ⟨hj, hj', e, h5, h6⟩ := hpl j _ h1
        obtain ⟨cs0, e1, e2⟩ := ren_cells e.symm
        obtain ⟨j2, e3, hj2, h7⟩ := parMu_some h2
        injection e3 with e3
        subst e3
        exact ⟨j, k, hj, rfl, row, cs0, b', by rw [h5, e1], h7, (e2 k sz xs).1 h3, h4⟩
      | _ => simp at h1
  refine ⟨fun t => ?_, hr.heap, hr.size, ?_, ?_, ?_, ?_, ?_, fun b hb => hb.1, ?_, ?_, fun j _ => rfl, hr.base⟩
  · rw [htm, weakBut_get]
    cases hv : vs[t]? with
    | none => exact .two _ _ (.one _ _ (.any _))
    | some x =>
      obtain ⟨hlt, hx⟩ := List.getElem?_eq_some_iff.1 hv
      have hlt' : t < us.length := by rw [← ha.len]; exact hlt
      have hrep := ha.get t hlt hlt'
      rw [hx] at hrep
      simp only [Option.map_some, Option.getD_some, argTm, List.getElem?_eq_getElem hlt']
      cases gv with
      | none => exact hrep.weak.ren toPar_mu
      | some q =>
        obtain ⟨i, t'⟩ := q
        dsimp only
        split
        · exact hrep.ren toPar_mu
        · exact hrep.weak.ren toPar_mu
  · intro o ho
    rw [hob] at ho
    cases o with
    | par j =>
      simp at ho
      simp only [parMu]
      rw [List.getElem?_eq_none (by rw [← p.lenO]; exact ho)]
      rfl
    | _ => rfl
  · intro o x hx hax
    rw [hob] at hx
    cases o with
    | par j =>
      obtain ⟨hj, hj', e, h5, h6⟩ := hpl j _ hx
      subst e
      rcases hr.obs _ _ h5 h6 with ⟨b, h7, h8⟩ | ⟨h7, h8⟩
      · exact .inl ⟨b, by simp [parMu, hj, h7], h8.ren toPar_mu⟩
      · right
        rw [h7]
        exact ⟨rfl, by simp [parMu, hj, h8]⟩
    | _ => simp at hx
  · intro o o' b h1 h2
    obtain ⟨j, rfl, hj, h3⟩ := hlv _ _ h1
    obtain ⟨j', rfl, hj', h4⟩ := hlv _ _ h2
    have := hr.inj _ _ _ h3 h4
    rw [(List.getElem_inj p.nodup).1 this]
  · intro o b hb k
    obtain ⟨j, rfl, hj, h3⟩ := hlv _ _ hb
    exact hr.objH _ _ h3 k
  · intro o b hb hF
    obtain ⟨j, rfl, hj, h3⟩ := hlv _ _ hb
    exact hF.2.1 _ (List.getElem_mem hj) (live_some h3).1
  · intro ℓ sz xs b off n c hl
    rcases hat _ _ _ _ _ _ _ hl with ⟨j, k, hj, rfl, hl2⟩ | ⟨j, t, hgv, rfl, hl2⟩
    · obtain ⟨g1, g2, g3, g4⟩ := hr.own _ _ _ _ _ _ _ hl2
      refine ⟨g1, g2, fun o ho => ?_, fun hF => hF.2.2.1 _ (List.getElem_mem hj) k ⟨_, _, _, _, _, hl2⟩⟩
      obtain ⟨j', rfl, hj', h3⟩ := hlv _ _ ho
      exact g3 _ h3
    · obtain ⟨g1, g2, g3, g4⟩ := hr.own _ _ _ _ _ _ _ hl2
      refine ⟨g1, g2, fun o ho => ?_, fun hF => hF.2.2.2 t (by rw [hgv]; rfl) ⟨_, _, _, _, _, hl2⟩⟩
      obtain ⟨j', rfl, hj', h3⟩ := hlv _ _ ho
      exact g3 _ h3
  · rintro ℓ ℓ' b ⟨sz1, xs1, off1, n1, c1, h1⟩ ⟨sz2, xs2, off2, n2, c2, h2⟩
    rcases hat _ _ _ _ _ _ _ h1 with ⟨j, k, hj, rfl, h3⟩ | ⟨j, t, hgv, rfl, h3⟩ <;> rcases hat _ _ _ _ _ _ _ h2 with ⟨j', k', hj', rfl, h4⟩ | ⟨j', t', hgv', rfl, h4⟩
    · have := hr.ownInj _ _ _ ⟨_, _, _, _, _, h3⟩ ⟨_, _, _, _, _, h4⟩
      simp only [Loc.o.injEq] at this
      obtain ⟨e1, e2⟩ := this
      rw [(List.getElem_inj p.nodup).1 e1, e2]
    · have := hr.ownInj _ _ _ ⟨_, _, _, _, _, h3⟩ ⟨_, _, _, _, _, h4⟩
      simp at this
    · have := hr.ownInj _ _ _ ⟨_, _, _, _, _, h3⟩ ⟨_, _, _, _, _, h4⟩
      simp at this
    · rw [hgv] at hgv'
      simp at hgv'
      rw [hgv'.1]
end
end Go.Ax
