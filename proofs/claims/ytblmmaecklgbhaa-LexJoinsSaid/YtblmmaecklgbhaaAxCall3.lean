/- A part of the proof of a law of this seat: no condition. -/
import Derived.Test.YtblmmaecklgbhaaAxCall2
set_option linter.unusedVariables false
set_option linter.unusedSimpArgs false
namespace Go.Ax
attribute [local simp] look_cons
/-- Where things lie behind a call. -/
def postMu (ids : List Oid) (mv : List Nat) (dst : Option Nat) (n : Nat) (μ μ' : Oid → Option Nat) : Oid → Option Nat
  | .alt o => match place o ids with
    | some j => if mv.contains j then μ' (.par j) else μ (.alt o)
    | none => μ (.alt o)
  | .sub d i => if dst = some d ∧ i < n then μ' (.sub 0 i) else μ (.sub d i)
  | o => μ o
section
variable {P : Program} {H H' : Heap} {μ μ' : Oid → Option Nat} {F F' : Fr} {st st1 : St} {tm tm' : Nat → Value} {w w' : World}

/-- The caller's state behind the call. -/
theorem Pass.post {ids : List Oid} {objs objs' news : List Ob} {mv : List Nat} {dst : Option Nat} {pre : List Wr} {gt : Option Nat} {r : V} {v : Value} (p : Pass st ids objs) (hr : Rel H μ F st tm w)
    (hr1 : Rel H μ F (st.app pre) tm w) (hpo : ∀ o, (st.app pre).ob o = st.ob o) (hgt : ∀ t, gt = some t → ∀ b, Holds μ st tm w (.t t) b → ∀ ℓ, ¬ Holds μ (st.app pre) tm w ℓ b)
    (hps : ∀ ℓ b, Holds μ (st.app pre) tm w ℓ b → Holds μ st tm w ℓ b)
    (hmv : ∀ j ∈ mv, j < ids.length) (hfr : ∀ j ∈ mv, ∀ o, ids[j]? = some o → st.ob (.alt o) = none) (hfs : ∀ d, dst = some d → ∀ i, i < news.length → st.ob (.sub d i) = none)
    (hlen : objs'.length = ids.length) (hfix : ∀ j, j < ids.length → j ∉ mv → μ' (.par j) = parMu ids μ (.par j))
    (hFF' : F'.F = (passF F.B μ st tm w ids gt).F) (hFB : F'.B = F.B)
    (h : Rel H' μ' F' (conSt [r] objs' news) (upd noTm 0 v) w') (hx : Ext (passF F.B μ st tm w ids gt) H w H' w') :
    Rel H' (postMu ids mv dst news.length μ μ') F (st.app (back ⟨pre, ids, mv, dst⟩ r objs' news)) (after dst tm v) w' ∧ Ext F H w H' w' := by
  generalize hnm : ofPar ids mv dst = nm
  generalize hμ2 : postMu ids mv dst news.length μ μ' = μ2
  generalize hpf : passF F.B μ st tm w ids gt = pf at *
  have hpfF : ∀ b, pf b ↔ b < w.heap.size ∧ (∀ o ∈ ids, μ o ≠ some b) ∧ (∀ o ∈ ids, ∀ j, ¬ Holds μ st tm w (.o o j) b) ∧ ∀ t, gt = some t → ¬ Holds μ st tm w (.t t) b := fun b => by rw [← hpf]; rfl
  have hidl : ∀ j (hj : j < ids.length), live st μ ids[j] = μ ids[j] := by
    intro j hj
    have := p.ob j hj (by rw [p.lenO]; exact hj)
    unfold live
    rw [this.1]
    cases ho : objs[j]'(by rw [p.lenO]; exact hj) <;> rw [ho] at this <;> simp_all [Ob.alive]
  have hidn : ∀ o ∈ ids, st.ob o ≠ none := by
    intro o ho
    obtain ⟨j, hj, rfl⟩ := List.getElem_of_mem ho
    rw [(p.ob j hj (by rw [p.lenO]; exact hj)).1]
    simp
  have hFF : ∀ b, F b → pf b := by
    intro b hb
    rw [hpfF]
    refine ⟨hr.Flt b hb, fun o ho hm => ?_, fun o _ j hh => ?_, fun t _ hh => ?_⟩
    · obtain ⟨j, hj, rfl⟩ := List.getElem_of_mem ho
      exact hr.objF _ _ ((hidl j hj).trans hm) hb
    · obtain ⟨_, _, _, _, _, hl⟩ := hh
      exact (hr.own _ _ _ _ _ _ _ hl).nofr hb
    · obtain ⟨_, _, _, _, _, hl⟩ := hh
      exact (hr.own _ _ _ _ _ _ _ hl).nofr hb
  refine ⟨?_, hx.sub hFF⟩
  have hL1 : live (st.app pre) μ = live st μ := live_congr hpo
  -- names
  have hnmp : ∀ j o, nm (.par j) = some o ↔ (j ∈ mv ∧ ∃ u, ids[j]? = some u ∧ o = .alt u) ∨ (j ∉ mv ∧ ids[j]? = some o) := by
    intro j o
    rw [← hnm]
    simp only [ofPar]
    by_cases hj : j ∈ mv
    · rw [if_pos (by simpa using hj)]
      simp only [hj, not_true_eq_false, true_and, false_and, or_false, Option.map_eq_some_iff]
      constructor
      · rintro ⟨u, h1, h2⟩; exact ⟨u, h1, h2.symm⟩
      · rintro ⟨u, h1, h2⟩; exact ⟨u, h1, h2.symm⟩
    · rw [if_neg (by simpa using hj)]
      simp [hj]
  have hnms : ∀ i o, nm (.sub 0 i) = some o ↔ ∃ d, dst = some d ∧ o = .sub d i := by
    intro i o
    rw [← hnm]
    simp only [ofPar, Option.map_eq_some_iff]
    constructor
    · rintro ⟨u, h1, h2⟩; exact ⟨u, h1, h2.symm⟩
    · rintro ⟨u, h1, h2⟩; exact ⟨u, h1, h2.symm⟩
  have hnmo : ∀ u o, nm u = some o → (∃ j, u = .par j) ∨ ∃ i, u = .sub 0 i := by
    intro u o hu
    rw [← hnm] at hu
    cases u with
    | par j => exact .inl ⟨j, rfl⟩
    | sub t i => cases t with
      | zero => exact .inr ⟨i, rfl⟩
      | succ t => simp [ofPar] at hu
    | _ => simp [ofPar] at hu
  -- a name that was there
  have hold2 : ∀ o, st.ob o ≠ none → μ2 o = μ o := by
    intro o ho
    rw [← hμ2]
    cases o with
    | alt u =>
      simp only [postMu]
      split
      · rename_i j hj
        split
        · rename_i hc
          exact absurd (hfr j (by simpa using hc) u (place_some hj)) ho
        · rfl
      · rfl
    | sub d i =>
      simp only [postMu]
      split
      · rename_i hc
        exact absurd (hfs d hc.1 i hc.2) ho
      · rfl
    | _ => rfl
  have hmono : LeM μ μ2 := by
    intro o b hb
    rw [hold2 o (fun e => by rw [hr.dom o e] at hb; simp at hb)]
    exact hb
  -- a callee's name
  have hcal : ∀ u o b, nm u = some o → (conSt [r] objs' news).ob u ≠ none → μ' u = some b → μ2 o = some b := by
    intro u o b hu hun hb
    rcases hnmo u o hu with ⟨j, rfl⟩ | ⟨i, rfl⟩
    · rcases (hnmp j o).1 hu with ⟨h1, u', h2, rfl⟩ | ⟨h1, h2⟩
      · rw [← hμ2]
        simp only [postMu]
        obtain ⟨j', hj'⟩ := place_of (List.mem_of_getElem? h2)
        have : j' = j := by
          have h3 := place_some hj'
          obtain ⟨l1, e1⟩ := List.getElem?_eq_some_iff.1 h2
          obtain ⟨l2, e2⟩ := List.getElem?_eq_some_iff.1 h3
          exact (List.getElem_inj p.nodup).1 (e2.trans e1.symm)
        subst this
        rw [hj']
        simp only
        rw [if_pos (by simpa using h1)]
        exact hb
      · obtain ⟨hj, rfl⟩ := List.getElem?_eq_some_iff.1 h2
        rw [hold2 _ (hidn _ (List.getElem_mem hj))]
        rw [hfix j hj h1] at hb
        simpa [parMu, hj] using hb
    · obtain ⟨d, h1, rfl⟩ := (hnms i o).1 hu
      rw [conSt_ob] at hun
      simp only at hun
      have hi : i < news.length := by
        cases hq : news[i]? with
        | none => exact absurd hq hun
        | some x => exact (List.getElem?_eq_some_iff.1 hq).1
      rw [← hμ2]
      simp only [postMu]
      rw [if_pos ⟨h1, hi⟩]
      exact hb
  have hcal' : ∀ o u b, nm o = some u → μ' o = some b → μ2 u = some b := fun o u b h1 h2 => hcal o u b h1 (fun e => by rw [h.dom o e] at h2; simp at h2) h2
  -- what is written
  have hbk : ∀ o, (∀ x, (o, x) ∈ backO ⟨pre, ids, mv, dst⟩ objs' news → ∀ y, (o, y) ∈ backO ⟨pre, ids, mv, dst⟩ objs' news → y = x) := by
    intro o x hx y hy
    rw [mem_backO] at hx hy
    simp only [hnm] at hx hy
    rcases hx with ⟨j, hj, h1, rfl⟩ | ⟨j, x0, h0, h1, rfl⟩ | ⟨i, x0, h0, h1, rfl⟩ <;> rcases hy with ⟨j', hj', h1', rfl⟩ | ⟨j', y0, h0', h1', rfl⟩ | ⟨i', y0, h0', h1', rfl⟩
    · rfl
    · exfalso
      rcases (hnmp j' o).1 h1' with ⟨h2, u, h3, rfl⟩ | ⟨h2, h3⟩
      · exact hidn _ (List.mem_of_getElem? h1) (hfr j' h2 u h3)
      · obtain ⟨l1, e1⟩ := List.getElem?_eq_some_iff.1 h1
        obtain ⟨l2, e2⟩ := List.getElem?_eq_some_iff.1 h3
        have := (List.getElem_inj p.nodup).1 (e1.trans e2.symm)
        subst this
        exact h2 hj
    · exfalso
      obtain ⟨d, h2, rfl⟩ := (hnms i' o).1 h1'
      exact hidn _ (List.mem_of_getElem? h1) (hfs d h2 i' (List.getElem?_eq_some_iff.1 h0').1)
    · exfalso
      rcases (hnmp j o).1 h1 with ⟨h2, u, h3, rfl⟩ | ⟨h2, h3⟩
      · exact hidn _ (List.mem_of_getElem? h1') (hfr j h2 u h3)
      · obtain ⟨l1, e1⟩ := List.getElem?_eq_some_iff.1 h1'
        obtain ⟨l2, e2⟩ := List.getElem?_eq_some_iff.1 h3
        have := (List.getElem_inj p.nodup).1 (e1.trans e2.symm)
        subst this
        exact h2 hj'
    · have hjj : j = j' := by
        rcases (hnmp j o).1 h1 with ⟨h2, u, h3, rfl⟩ | ⟨h2, h3⟩ <;> rcases (hnmp j' _).1 h1' with ⟨h2', u', h3', e⟩ | ⟨h2', h3'⟩
        · injection e with e
          subst e
          obtain ⟨l1, e1⟩ := List.getElem?_eq_some_iff.1 h3
          obtain ⟨l2, e2⟩ := List.getElem?_eq_some_iff.1 h3'
          exact (List.getElem_inj p.nodup).1 (e1.trans e2.symm)
        · exact absurd (hfr j h2 u h3) (hidn _ (List.mem_of_getElem? h3'))
        · subst e
          exact absurd (hfr j' h2' u' h3') (hidn _ (List.mem_of_getElem? h3))
        · obtain ⟨l1, e1⟩ := List.getElem?_eq_some_iff.1 h3
          obtain ⟨l2, e2⟩ := List.getElem?_eq_some_iff.1 h3'
          exact (List.getElem_inj p.nodup).1 (e1.trans e2.symm)
      subst hjj
      rw [h0] at h0'
      injection h0' with h0'
      rw [h0']
    · exfalso
      obtain ⟨d, h2, rfl⟩ := (hnms i' o).1 h1'
      rcases (hnmp j _).1 h1 with ⟨_, u, _, e⟩ | ⟨_, h3⟩
      · simp at e
      · exact hidn _ (List.mem_of_getElem? h3) (hfs d h2 i' (List.getElem?_eq_some_iff.1 h0').1)
    · exfalso
      obtain ⟨d, h2, rfl⟩ := (hnms i o).1 h1
      exact hidn _ (List.mem_of_getElem? h1') (hfs d h2 i (List.getElem?_eq_some_iff.1 h0).1)
    · exfalso
      obtain ⟨d, h2, rfl⟩ := (hnms i o).1 h1
      rcases (hnmp j' _).1 h1' with ⟨_, u, _, e⟩ | ⟨_, h3⟩
      · simp at e
      · exact hidn _ (List.mem_of_getElem? h3) (hfs d h2 i (List.getElem?_eq_some_iff.1 h0).1)
    · obtain ⟨d, h2, rfl⟩ := (hnms i o).1 h1
      obtain ⟨d', h2', e⟩ := (hnms i' _).1 h1'
      simp at e
      obtain ⟨rfl, rfl⟩ := e
      rw [h0] at h0'
      injection h0' with h0'
      rw [h0']
  have htm : ∀ t, (st.app (back ⟨pre, ids, mv, dst⟩ r objs' news)).tm t = if dst = some t then renV nm r else (st.app pre).tm t := by
    intro t
    simp only [back, St.app_append, hnm]
    cases dst with
    | none => simp [out, St.app, app_tm_o]
    | some d => simp only [out, St.app, St.tm_put, app_tm_o, Option.some.injEq]
  have hob0 : ∀ o, (st.app (back ⟨pre, ids, mv, dst⟩ r objs' news)).ob o = ((st.app pre).app ((backO ⟨pre, ids, mv, dst⟩ objs' news).map fun x => Wr.o x.1 x.2)).ob o := by
    intro o
    simp only [back, St.app_append]
    cases dst <;> rfl
  have hobM : ∀ o x, (o, x) ∈ backO ⟨pre, ids, mv, dst⟩ objs' news → (st.app (back ⟨pre, ids, mv, dst⟩ r objs' news)).ob o = some x := by
    intro o x hx
    rw [hob0]
    exact app_ob_mem _ _ ⟨x, hx⟩ fun y hy => hbk o x hx y hy
  have hobN : ∀ o, (¬ ∃ x, (o, x) ∈ backO ⟨pre, ids, mv, dst⟩ objs' news) → (st.app (back ⟨pre, ids, mv, dst⟩ r objs' news)).ob o = st.ob o := by
    intro o hn
    rw [hob0, app_ob_not _ _ hn, hpo]
  have hmemC : ∀ u x, (conSt [r] objs' news).ob u = some x → ∀ o, nm u = some o → (o, x.ren nm) ∈ backO ⟨pre, ids, mv, dst⟩ objs' news := by
    intro u x hu o ho
    rw [mem_backO]
    simp only [hnm]
    rw [conSt_ob] at hu
    rcases hnmo u o ho with ⟨j, rfl⟩ | ⟨i, rfl⟩
    · exact .inr (.inl ⟨j, x, hu, ho, rfl⟩)
    · exact .inr (.inr ⟨i, x, hu, ho, rfl⟩)
  -- each object: the callee's, dead, or as it was
  have hcase : ∀ o x, (st.app (back ⟨pre, ids, mv, dst⟩ r objs' news)).ob o = some x → x.alive = true →
      (∃ u y, nm u = some o ∧ (conSt [r] objs' news).ob u = some y ∧ x = y.ren nm) ∨ ((¬ ∃ x, (o, x) ∈ backO ⟨pre, ids, mv, dst⟩ objs' news) ∧ st.ob o = some x ∧ o ∉ ids) := by
    intro o x hx ha
    by_cases hm : ∃ y, (o, y) ∈ backO ⟨pre, ids, mv, dst⟩ objs' news
    · left
      obtain ⟨y, hy⟩ := hm
      have := hobM o y hy
      rw [hx] at this
      injection this with this
      subst this
      rw [mem_backO] at hy
      simp only [hnm] at hy
      rcases hy with ⟨j, hj, h1, rfl⟩ | ⟨j, y0, h0, h1, rfl⟩ | ⟨i, y0, h0, h1, rfl⟩
      · simp [Ob.alive] at ha
      · exact ⟨.par j, y0, h1, by rw [conSt_ob]; exact h0, rfl⟩
      · exact ⟨.sub 0 i, y0, h1, by rw [conSt_ob]; exact h0, rfl⟩
    · right
      rw [hobN o hm] at hx
      refine ⟨hm, hx, fun hmem => hm ?_⟩
      obtain ⟨j, hj, rfl⟩ := List.getElem_of_mem hmem
      by_cases hjm : j ∈ mv
      · exact ⟨.dead, by rw [mem_backO]; exact .inl ⟨j, hjm, by simp [hj], rfl⟩⟩
      · have hlt : j < objs'.length := by rw [hlen]; exact hj
        exact ⟨_, hmemC (.par j) objs'[j] (by rw [conSt_ob]; simp [hlt]) ids[j] ((hnmp j _).2 (.inr ⟨hjm, by simp [hj]⟩))⟩
  have hlvC : ∀ u y, (conSt [r] objs' news).ob u = some y → y.alive = true → ∀ b, μ' u = some b → live (conSt [r] objs' news) μ' u = some b := by
    intro u y hu hy b hb
    refine live_of hb ?_
    rw [hu]
    intro e
    injection e with e
    rw [e] at hy
    simp [Ob.alive] at hy
  -- blocks that were not passed are as they were
  have hkeep : ∀ o b, o ∉ ids → live st μ o = some b → pf b := by
    intro o b ho hb
    rw [hpfF]
    refine ⟨(hr.obLt hb).choose_spec.2.2.2, fun u hu hm => ?_, fun u _ j hh => ?_, fun t _ hh => ?_⟩
    · obtain ⟨j, hj, rfl⟩ := List.getElem_of_mem hu
      have := hr.inj _ _ _ hb ((hidl j hj).trans hm)
      exact ho (this ▸ List.getElem_mem hj)
    · obtain ⟨_, _, _, _, _, hl⟩ := hh
      exact (hr.own _ _ _ _ _ _ _ hl).noobj o hb
    · obtain ⟨_, _, _, _, _, hl⟩ := hh
      exact (hr.own _ _ _ _ _ _ _ hl).noobj o hb
  have hpfl : ∀ b, pf b → b < w.heap.size := fun b hb => ((hpfF b).1 hb).1
  -- where an object lives
  have hlive : ∀ o b, live (st.app (back ⟨pre, ids, mv, dst⟩ r objs' news)) μ2 o = some b →
      (∃ u y, nm u = some o ∧ (conSt [r] objs' news).ob u = some y ∧ live (conSt [r] objs' news) μ' u = some b) ∨ (o ∉ ids ∧ live st μ o = some b ∧ pf b) := by
    intro o b hb
    obtain ⟨h1, h2⟩ := live_some hb
    cases hx : (st.app (back ⟨pre, ids, mv, dst⟩ r objs' news)).ob o with
    | none =>
      exfalso
      -- no name, no place
      have hn : ¬ ∃ x, (o, x) ∈ backO ⟨pre, ids, mv, dst⟩ objs' news := by
        rintro ⟨x, hx'⟩
        rw [hobM o x hx'] at hx
        simp at hx
      rw [hobN o hn] at hx
      rw [← hμ2] at h1
      cases o with
      | alt u =>
        simp only [postMu] at h1
        split at h1
        · rename_i j hj
          split at h1
          · rename_i hc
            have hjm : j ∈ mv := by simpa using hc
            have hlt : j < objs'.length := by rw [hlen]; exact hmv j hjm
            exact hn ⟨_, hmemC (.par j) objs'[j] (by rw [conSt_ob]; simp [hlt]) _ ((hnmp j _).2 (.inl ⟨hjm, u, place_some hj, rfl⟩))⟩
          · rw [hr.dom _ hx] at h1; simp at h1
        · rw [hr.dom _ hx] at h1; simp at h1
      | sub d i =>
        simp only [postMu] at h1
        split at h1
        · rename_i hc
          exact hn ⟨_, hmemC (.sub 0 i) news[i] (by rw [conSt_ob]; simp [hc.2]) _ ((hnms i _).2 ⟨d, hc.1, rfl⟩)⟩
        · rw [hr.dom _ hx] at h1; simp at h1
      | _ => simp only [postMu] at h1; rw [hr.dom _ hx] at h1; simp at h1
    | some x =>
      have hax : x.alive = true := by cases x <;> simp_all [Ob.alive]
      rcases hcase o x hx hax with ⟨u, y, h3, h4, rfl⟩ | ⟨h3, h4, h5⟩
      · left
        rw [ren_alive] at hax
        refine ⟨u, y, h3, h4, ?_⟩
        rcases h.obs u y h4 hax with ⟨b', h5, _⟩ | ⟨h5, h6⟩
        · have := hcal u o b' h3 (by rw [h4]; simp) h5
          rw [h1] at this
          injection this with this
          subst this
          exact hlvC u y h4 hax b h5
        · -- nil, yet it has a place: then it was one that stays
          exfalso
          rcases hnmo u o h3 with ⟨j, rfl⟩ | ⟨i, rfl⟩
          · rcases (hnmp j o).1 h3 with ⟨g1, u', g2, rfl⟩ | ⟨g1, g2⟩
            · rw [← hμ2] at h1
              simp only [postMu] at h1
              obtain ⟨j', hj'⟩ := place_of (List.mem_of_getElem? g2)
              have : j' = j := by
                obtain ⟨l1, e1⟩ := List.getElem?_eq_some_iff.1 g2
                obtain ⟨l2, e2⟩ := List.getElem?_eq_some_iff.1 (place_some hj')
                exact (List.getElem_inj p.nodup).1 (e2.trans e1.symm)
              subst this
              rw [hj'] at h1
              simp only at h1
              rw [if_pos (by simpa using g1), h6] at h1
              simp at h1
            · obtain ⟨hj, rfl⟩ := List.getElem?_eq_some_iff.1 g2
              rw [hold2 _ (hidn _ (List.getElem_mem hj))] at h1
              rw [hfix j hj g1] at h6
              simp [parMu, hj, h1] at h6
          · obtain ⟨d, g1, rfl⟩ := (hnms i o).1 h3
            rw [← hμ2] at h1
            simp only [postMu] at h1
            rw [conSt_ob] at h4
            have hi : i < news.length := (List.getElem?_eq_some_iff.1 h4).1
            rw [if_pos ⟨g1, hi⟩, h6] at h1
            simp at h1
      · right
        have h6 : μ o = some b := by rw [← hold2 o (by rw [h4]; simp)]; exact h1
        have h7 : live st μ o = some b := live_of h6 (by rw [h4]; intro e; injection e with e; rw [e] at hax; simp [Ob.alive] at hax)
        exact ⟨h5, h7, hkeep o b h5 h7⟩
  have haf : ∀ t, after dst tm v t = if dst = some t then v else tm t := by
    intro t
    cases dst with
    | none => simp [after]
    | some d => simp only [after, upd, Option.some.injEq]; by_cases e : t = d <;> simp [e, eq_comm]
  have hF'F : ∀ b, F'.F b ↔ pf b := by rw [hFF']; exact fun _ => Iff.rfl
  -- rows: what is new lies in no kept block, what is old in one
  have hat : ∀ ℓ sz xs b off n c, atL μ2 (st.app (back ⟨pre, ids, mv, dst⟩ r objs' news)) (after dst tm v) w' ℓ (.own sz xs) (.slice (some ⟨b, off, none⟩) n c) →
      (∃ ℓ', atL μ' (conSt [r] objs' news) (upd noTm 0 v) w' ℓ' (.own sz xs) (.slice (some ⟨b, off, none⟩) n c) ∧
        ((∃ d, dst = some d ∧ ℓ = .t d ∧ ℓ' = .t 0) ∨ ∃ u o k, nm u = some o ∧ ℓ = .o o k ∧ ℓ' = .o u k)) ∨
      (atL μ (st.app pre) tm w ℓ (.own sz xs) (.slice (some ⟨b, off, none⟩) n c) ∧ pf b) := by
    intro ℓ sz xs b off n c hl
    have hpfo : ∀ ℓ, atL μ (st.app pre) tm w ℓ (.own sz xs) (.slice (some ⟨b, off, none⟩) n c) → (∀ o ∈ ids, ∀ j, ℓ ≠ .o o j) → pf b := by
      intro ℓ hl hne
      obtain ⟨⟨vs, ty, g1, _⟩, g2, g3, g4⟩ := hr1.own _ _ _ _ _ _ _ hl
      rw [hL1] at g3
      rw [hpfF]
      refine ⟨(Array.getElem?_eq_some_iff.1 g1).1, fun o ho hm => ?_, fun o ho j hh => ?_, fun t ht hh => ?_⟩
      · obtain ⟨j, hj, rfl⟩ := List.getElem_of_mem ho
        exact g3 _ ((hidl j hj).trans hm)
      · exact hne o ho j (hr.ownInj _ _ _ (hps _ _ ⟨_, _, _, _, _, hl⟩) hh)
      · exact hgt t ht b hh ℓ ⟨_, _, _, _, _, hl⟩
    cases ℓ with
    | t m =>
      obtain ⟨h1, h2⟩ := hl
      rw [htm] at h1
      rw [haf] at h2
      by_cases e : dst = some m
      · rw [if_pos e] at h1 h2
        rw [renV_own] at h1
        exact .inl ⟨.t 0, ⟨by rw [conSt_tm]; simp [h1], by simp [upd, h2]⟩, .inl ⟨m, e, rfl, rfl⟩⟩
      · rw [if_neg e] at h1 h2
        have hl : atL μ (st.app pre) tm w (.t m) (.own sz xs) (.slice (some ⟨b, off, none⟩) n c) := ⟨h1, h2⟩
        exact .inr ⟨hl, hpfo _ hl (by simp)⟩
    | o o k =>
      obtain ⟨row, cs, b', h1, h2, h3, h4⟩ := hl
      rcases hcase o _ h1 rfl with ⟨u, y, h5, h6, h7⟩ | ⟨h5, h6, h7⟩
      · left
        obtain ⟨cs0, e1, e2⟩ := ren_cells h7.symm
        subst e1
        refine ⟨.o u k, ⟨row, cs0, b', h6, ?_, (e2 k sz xs).1 h3, h4⟩, .inr ⟨u, o, k, h5, rfl, rfl⟩⟩
        rcases hlive o b' (live_of h2 (by rw [h1]; simp)) with ⟨u2, y2, g1, g2, g3⟩ | ⟨g1, g2, g3⟩
        · -- the same name
          rcases h.obs u _ h6 rfl with ⟨b3, g4, _⟩ | ⟨g4, _⟩
          · have := hcal u o b3 h5 (by rw [h6]; simp) g4
            rw [h2] at this
            injection this with this
            rw [this]; exact g4
          · simp only [Ob.cells.injEq] at g4
            obtain ⟨_, rfl⟩ := g4
            have := (e2 k sz xs).1 h3
            simp at this
        · rcases h.obs u _ h6 rfl with ⟨b3, g4, _⟩ | ⟨g4, _⟩
          · have := hcal u o b3 h5 (by rw [h6]; simp) g4
            rw [h2] at this
            injection this with this
            rw [this]; exact g4
          · simp only [Ob.cells.injEq] at g4
            obtain ⟨_, rfl⟩ := g4
            have := (e2 k sz xs).1 h3
            simp at this
      · right
        have h8 : μ o = some b' := by rw [← hold2 o (by rw [h6]; simp)]; exact h2
        have h9 := hr.cellsLive h6 h8
        have hkp := hkeep o b' h7 h9
        rw [cell?_eq (hx.frm b' hkp (hpfl _ hkp))] at h4
        have hl : atL μ (st.app pre) tm w (.o o k) (.own sz xs) (.slice (some ⟨b, off, none⟩) n c) := ⟨row, cs, b', by rw [hpo]; exact h6, h8, h3, h4⟩
        exact ⟨hl, hpfo _ hl (fun u hu j e => by simp at e; exact h7 (e.1 ▸ hu))⟩
  refine ⟨fun t => ?_, h.heap, h.size, ?_, ?_, ?_, ?_, ?_, fun b hb => Nat.lt_of_lt_of_le (hr.Flt b hb) hx.size, ?_, ?_, ?_, hr.base.trans hx.le⟩
  · rw [htm, haf]
    by_cases e : dst = some t
    · rw [if_pos e, if_pos e]
      have := h.env 0
      rw [conSt_tm] at this
      simp [upd] at this
      exact this.ren hcal'
    · rw [if_neg e, if_neg e]
      exact (hr1.env t).mono hx.le hmono
  · intro o ho
    have hn : ¬ ∃ x, (o, x) ∈ backO ⟨pre, ids, mv, dst⟩ objs' news := by
      rintro ⟨x, hx'⟩
      rw [hobM o x hx'] at ho
      simp at ho
    cases hb : μ2 o with
    | none => rfl
    | some b =>
      have := hlive o b (live_of hb (by rw [ho]; simp))
      rcases this with ⟨u, y, g1, g2, g3⟩ | ⟨g1, g2, g3⟩
      · exact absurd ⟨_, hmemC u y g2 o g1⟩ hn
      · rw [hobN o hn] at ho
        have := (live_some g2).1
        rw [hr.dom o ho] at this
        simp at this
  · intro o x hxo hax
    rcases hcase o x hxo hax with ⟨u, y, h5, h6, rfl⟩ | ⟨h5, h6, h7⟩
    · rw [ren_alive] at hax
      rcases h.obs u y h6 hax with ⟨b, g1, g2⟩ | ⟨g1, g2⟩
      · exact .inl ⟨b, hcal u o b h5 (by rw [h6]; simp) g1, g2.ren hcal'⟩
      · subst g1
        cases hb : μ2 o with
        | none => exact .inr ⟨rfl, rfl⟩
        | some b =>
          exfalso
          rcases hlive o b (live_of hb (by rw [hxo]; simp [Ob.ren])) with ⟨u2, y2, k1, k2, k3⟩ | ⟨k1, k2, k3⟩
          · have h8 := hbk o _ (hmemC u _ h6 o h5) _ (hmemC u2 y2 k2 o k1)
            rcases hnmo u o h5 with ⟨j, rfl⟩ | ⟨i, rfl⟩
            · rcases (hnmp j o).1 h5 with ⟨q1, u', q2, rfl⟩ | ⟨q1, q2⟩
              · rw [← hμ2] at hb
                simp only [postMu] at hb
                obtain ⟨j', hj'⟩ := place_of (List.mem_of_getElem? q2)
                have : j' = j := by
                  obtain ⟨l1, e1⟩ := List.getElem?_eq_some_iff.1 q2
                  obtain ⟨l2, e2⟩ := List.getElem?_eq_some_iff.1 (place_some hj')
                  exact (List.getElem_inj p.nodup).1 (e2.trans e1.symm)
                subst this
                rw [hj'] at hb
                simp only at hb
                rw [if_pos (by simpa using q1), g2] at hb
                simp at hb
              · obtain ⟨hj, rfl⟩ := List.getElem?_eq_some_iff.1 q2
                rw [hold2 _ (hidn _ (List.getElem_mem hj))] at hb
                rw [hfix j hj q1] at g2
                simp [parMu, hj, hb] at g2
            · obtain ⟨d, q1, rfl⟩ := (hnms i o).1 h5
              rw [← hμ2] at hb
              simp only [postMu] at hb
              rw [conSt_ob] at h6
              have hi : i < news.length := (List.getElem?_eq_some_iff.1 h6).1
              rw [if_pos ⟨q1, hi⟩, g2] at hb
              simp at hb
          · rcases hnmo u o h5 with ⟨j, rfl⟩ | ⟨i, rfl⟩
            · rcases (hnmp j o).1 h5 with ⟨q1, u', q2, rfl⟩ | ⟨q1, q2⟩
              · have := (live_some k2).1
                rw [hr.dom _ (hfr j q1 u' q2)] at this
                simp at this
              · exact k1 (List.mem_of_getElem? q2)
            · obtain ⟨d, q1, rfl⟩ := (hnms i o).1 h5
              rw [conSt_ob] at h6
              have := (live_some k2).1
              rw [hr.dom _ (hfs d q1 i (List.getElem?_eq_some_iff.1 h6).1)] at this
              simp at this
    · rcases hr.obs o x h6 hax with ⟨b, g1, g2⟩ | ⟨g1, g2⟩
      · have h9 : live st μ o = some b := live_of g1 (by rw [h6]; intro e; injection e with e; rw [e] at hax; simp [Ob.alive] at hax)
        have hkp := hkeep o b h7 h9
        exact .inl ⟨b, hmono _ _ g1, g2.keep (hx.frm b hkp (hpfl _ hkp)) hx.le hmono⟩
      · exact .inr ⟨g1, by rw [hold2 o (by rw [h6]; simp)]; exact g2⟩
  · intro o o' b h1 h2
    rcases hlive o b h1 with ⟨u, y, g1, g2, g3⟩ | ⟨g1, g2, g3⟩ <;> rcases hlive o' b h2 with ⟨u', y', k1, k2, k3⟩ | ⟨k1, k2, k3⟩
    · have := h.inj _ _ _ g3 k3
      subst this
      rw [g1] at k1
      injection k1
    · exact absurd ((hF'F b).2 k3) (h.objF _ _ g3)
    · exact absurd ((hF'F b).2 g3) (h.objF _ _ k3)
    · exact hr.inj _ _ _ g2 k2
  · intro o b hb k
    rcases hlive o b hb with ⟨u, y, g1, g2, g3⟩ | ⟨g1, g2, g3⟩
    · exact h.objH _ _ g3 k
    · rw [hx.frH b g3 (hpfl _ g3)]
      exact hr.objH _ _ g2 k
  · intro o b hb hF
    rcases hlive o b hb with ⟨u, y, g1, g2, g3⟩ | ⟨g1, g2, g3⟩
    · exact h.objF _ _ g3 ((hF'F b).2 (hFF b hF))
    · exact hr.objF _ _ g2 hF
  · intro ℓ sz xs b off n c hl
    rcases hat _ _ _ _ _ _ _ hl with ⟨ℓ', hl', _⟩ | ⟨hl', hkp⟩
    · obtain ⟨g1, g2, g3, g4⟩ := h.own _ _ _ _ _ _ _ hl'
      refine ⟨g1, g2, fun o ho => ?_, fun hF => g4 ((hF'F b).2 (hFF b hF))⟩
      rcases hlive o b ho with ⟨u, y, k1, k2, k3⟩ | ⟨k1, k2, k3⟩
      · exact g3 _ k3
      · exact g4 ((hF'F b).2 k3)
    · obtain ⟨⟨vs, ty, g1, g1'⟩, g2, g3, g4⟩ := hr1.own _ _ _ _ _ _ _ hl'
      rw [hL1] at g3
      refine ⟨⟨vs, ty, by rw [hx.frm b hkp (hpfl _ hkp)]; exact g1, g1'⟩, fun k hk => by rw [hx.frH b hkp (hpfl _ hkp)]; exact g2 k hk, fun o ho => ?_, g4⟩
      rcases hlive o b ho with ⟨u, y, k1, k2, k3⟩ | ⟨k1, k2, k3⟩
      · exact h.objF _ _ k3 ((hF'F b).2 hkp)
      · exact g3 _ k2
  · rintro ℓ ℓ' b ⟨sz1, xs1, off1, n1, c1, h1⟩ ⟨sz2, xs2, off2, n2, c2, h2⟩
    rcases hat _ _ _ _ _ _ _ h1 with ⟨q1, a1, a2⟩ | ⟨a1, k1⟩ <;> rcases hat _ _ _ _ _ _ _ h2 with ⟨q2, b1, b2⟩ | ⟨b1, k2⟩
    · have := h.ownInj _ _ _ ⟨_, _, _, _, _, a1⟩ ⟨_, _, _, _, _, b1⟩
      subst this
      rcases a2 with ⟨d, e1, e2, e3⟩ | ⟨u, o, k, e1, e2, e3⟩ <;> rcases b2 with ⟨d', e1', e2', e3'⟩ | ⟨u', o', k', e1', e2', e3'⟩
      · rw [e2, e2']
        rw [e1] at e1'
        injection e1' with e1'
        rw [e1']
      · rw [e3] at e3'; simp at e3'
      · rw [e3] at e3'; simp at e3'
      · rw [e3] at e3'
        simp at e3'
        obtain ⟨rfl, rfl⟩ := e3'
        rw [e1] at e1'
        injection e1' with e1'
        rw [e2, e2', e1']
    · exact absurd ((hF'F b).2 k2) (h.own _ _ _ _ _ _ _ a1).nofr
    · exact absurd ((hF'F b).2 k1) (h.own _ _ _ _ _ _ _ b1).nofr
    · exact hr1.ownInj _ _ _ ⟨_, _, _, _, _, a1⟩ ⟨_, _, _, _, _, b1⟩
  · intro j hj
    have hparN : μ2 (.par j) = μ (.par j) := by rw [← hμ2]; rfl
    rw [hparN]
    by_cases hm : ∃ y, (Oid.par j, y) ∈ backO ⟨pre, ids, mv, dst⟩ objs' news
    · refine hr.par j ?_
      obtain ⟨y, hy⟩ := hm
      rw [mem_backO] at hy
      simp only [hnm] at hy
      rcases hy with ⟨j', hj', h1, rfl⟩ | ⟨j', y0, h0, h1, rfl⟩ | ⟨i, y0, h0, h1, rfl⟩
      · exact hidn _ (List.mem_of_getElem? h1)
      · rcases (hnmp j' _).1 h1 with ⟨_, u, _, e⟩ | ⟨_, h3⟩
        · simp at e
        · exact hidn _ (List.mem_of_getElem? h3)
      · obtain ⟨d, _, e⟩ := (hnms i _).1 h1
        simp at e
    · rw [hobN _ hm] at hj
      exact hr.par j hj
end
end Go.Ax
