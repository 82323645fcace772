/- A part of the proof of a law of this seat: no condition. -/
import Derived.Test.YtblmmaecklgbhaaAxCall
set_option linter.unusedVariables false
set_option linter.unusedSimpArgs false
namespace Go.Ax
attribute [local simp] look_cons
section
variable {P : Program} {T : Nat → Option TI} {steal : Nat → Bool} {H H' : Heap} {μ μ' : Oid → Option Nat} {F : Fr} {st st' : St} {tm tm' : Nat → Value} {w w' : World} {ρ : Operand → Value}

theorem good_op (hT : TabOk P T) (hr : Rel H μ F st tm w) (hρ : Env ρ tm) {o : Oper} {l : List Wr}
    (h : (opS T steal o).run st = some (.ws l)) : Good P H μ F tm w o.dst (st.app l) (execOp ρ o) := by
  cases ho : o.op with
  | move x => exact good_move hT hr hρ ho h
  | assign x => exact good_assign hT hr hρ ho h
  | pick c a b => exact good_pick hr hρ ho h
  | alloc e => exact good_alloc hT hr hρ ho h
  | box e x => exact good_box hT hr hρ ho h
  | build t ps => exact good_build hT hr hρ ho h
  | buildSlice t n ps => exact good_buildSlice hT hr hρ ho h
  | load t a => exact good_load hT hr hρ ho h
  | store t a x => exact good_store hT hr hρ ho h
  | nilCheck x => exact good_nilCheck hr hρ ho h
  | binOp op t x y t' => exact good_binOp hT hr hρ ho h
  | unOp op t x => exact good_unOp hr hρ ho h
  | slice t x lo hi mx =>
    cases mx with
    | none => exact good_slice hT hr hρ ho h
    | some m => simp [opS, ho, Rd.run] at h
  | fieldAddr s x f => exact good_fieldAddr hT hr hρ ho h
  | indexAddr t x i => exact good_indexAddr hT hr hρ ho h
  | index t x i => exact good_index hT hr hρ ho h
  | extract x i => exact good_extract hr hρ ho h
  | call c =>
    obtain ⟨callee, args, at'⟩ := c
    cases callee with
    | builtin b =>
      cases b with
      | len => exact good_len hT hr hρ ho h
      | append => exact good_append hT hr hρ ho h
      | _ => simp [opS, ho, Rd.run] at h
    | invoke r m => simp [opS, ho, Rd.run] at h
    | value f => simp [opS, ho, Rd.run] at h
  | _ => simp [opS, ho, Rd.run] at h

theorem getObs_run {ids : List Oid} {objs : List Ob} (h : (getObs ids).run st = some objs) : objs.length = ids.length ∧ ∀ j (hj : j < ids.length) (hj' : j < objs.length), st.ob ids[j] = some objs[j] := by
  induction ids generalizing objs with
  | nil => simp [getObs, Rd.run] at h; subst h; simp
  | cons o ids ih =>
    simp only [getObs, Rd.run] at h
    replace h := rd_bind _ _ _ h
    obtain ⟨c, hc, h⟩ := h
    replace h := rd_bind _ _ _ h
    obtain ⟨l, hl, h⟩ := h
    have := rd_pure h
    subst this
    obtain ⟨h1, h2⟩ := ih hl
    refine ⟨by simp [h1], fun j hj hj' => ?_⟩
    cases j with
    | zero => exact rd_rOpt hc
    | succ j => exact h2 j (by simpa using hj) (by simpa using hj')

theorem RepC.toS {xs : List V} {us : List Value} (h : RepC H μ xs us) : RepArgs H μ xs us :=
  ⟨h.length, fun j hj hj' => .two _ _ (.one _ _ (h.get j hj hj').2.2)⟩
theorem RepArgs.append {a b us vs} (h : RepArgs H μ a us) (h' : RepArgs H μ b vs) : RepArgs H μ (a ++ b) (us ++ vs) := by
  refine ⟨by simp [h.len, h'.len], fun j hj hj' => ?_⟩
  have hl := h.len
  by_cases e : j < a.length
  · rw [List.getElem_append_left e, List.getElem_append_left (hl ▸ e)]
    exact h.get _ _ _
  · rw [List.getElem_append_right (by omega), List.getElem_append_right (by omega)]
    simp only [hl]
    exact h'.get _ _ _

theorem callS_run (hr : Rel H μ F st tm w) {f g : FuncId} {vs : List V} {us : List Value} (hvs : RepArgs H μ vs us) {dst d : Option Nat} {args ids objs}
    (h : (callS f vs dst).run st = some (.call g args ids objs d)) :
    g = f ∧ d = dst ∧ ∃ objs0 bs, objs = objs0.map (Ob.ren (Go.Ax.toPar ids)) ∧ Pass st μ ids objs0 bs ∧ RepArgs H (parMap bs) args us := by
  unfold callS at h
  replace h := rd_bind _ _ _ h
  obtain ⟨objs1, _, h⟩ := h
  dsimp only at h
  replace h := rd_bind _ _ _ h
  obtain ⟨objs0, h0, h⟩ := h
  have := rd_pure h
  simp only [Res.call.injEq] at this
  obtain ⟨rfl, rfl, rfl, rfl, rfl⟩ := this
  obtain ⟨h1, h2⟩ := getObs_run h0
  generalize hids : dedup (dedup [] (vs.flatMap refsV)) (objs1.flatMap Ob.refs) = ids at *
  have hnd : ids.Nodup := by
    rw [← hids]
    exact dedup_nodup _ _ (dedup_nodup _ _ List.nodup_nil)
  have hb : ∀ o ∈ ids, ∃ b, μ o = some b := by
    intro o ho
    obtain ⟨j, hj, e⟩ := List.getElem_of_mem ho
    obtain ⟨b, hb, _⟩ := hr.obs _ _ (h2 j hj (by rw [h1]; exact hj))
    exact ⟨b, e ▸ hb⟩
  refine ⟨rfl, rfl, objs0, ids.map fun o => (μ o).getD 0, rfl, ⟨hnd, by simp, h1, h2, fun j hj hj' => ?_⟩, ?_⟩
  · obtain ⟨b, hb⟩ := hb _ (List.getElem_mem hj)
    simp [hb]
  · have p : Pass st μ ids objs0 (ids.map fun o => (μ o).getD 0) := ⟨hnd, by simp, h1, h2, fun j hj hj' => by
      obtain ⟨b, hb⟩ := hb _ (List.getElem_mem hj)
      simp [hb]⟩
    refine ⟨by simp [hvs.len], fun j hj hj' => ?_⟩
    simp only [List.getElem_map]
    exact ((hvs.get j (by simpa using hj) hj').weak).ren p.toPar

theorem RepS.clo_inv {g : FuncId} {first caps : List V} {v : Value} (h : RepS H μ (.clo g first caps) v) :
    ∃ u1 u2 : List Value, v = .func (.func g) u1.toArray u2.toArray ∧ RepC H μ first u1 ∧ RepC H μ caps u2 := by
  cases h with
  | two _ _ h => cases h with
    | clo _ _ _ us vs h h' => exact ⟨us, vs, rfl, h, h'⟩
    | one _ _ h => cases h with | data _ _ h => cases h

/-- Every operation: what it writes, or the call that it makes. -/
theorem opF_run (hT : TabOk P T) (hr : Rel H μ F st tm w) (hρ : Env ρ tm) {o : Oper} {r : Res} (h : (opF T steal o).run st = some r) :
    (∃ l, r = .ws l ∧ Good P H μ F tm w o.dst (st.app l) (execOp ρ o)) ∨
    ∃ f args ids objs us objs0 bs, r = .call f args ids objs o.dst ∧ objs = objs0.map (Ob.ren (Go.Ax.toPar ids)) ∧ Pass st μ ids objs0 bs ∧ RepArgs H (parMap bs) args us ∧
      (execOp ρ o).run P w = (callFunc f us.toArray).run P w := by
  unfold opF at h
  split at h
  · rename_i fo as_ at' ho
    right
    replace h := rd_bind _ _ _ h
    obtain ⟨fv, hfv, h⟩ := h
    replace h := rd_bind _ _ _ h
    obtain ⟨vs, hvs, h⟩ := h
    obtain ⟨e1, e2⟩ := evs_rep hr hρ hvs
    dsimp only at h
    split at h
    · rename_i hlen
      have hargs : RepArgs H μ (vs.zipWith (fun v t => fixT (T t) v) at'.toList) (as_.toList.map ρ) := by
        refine ⟨by rw [hlen]; simp, fun j hj hj' => ?_⟩
        simp only [List.getElem_zipWith, List.getElem_map]
        have hjv : j < vs.length := by simp at hj; omega
        exact fixT_rep' (e2 j hjv (by simpa using hj')).1
      have hrf := ev_rep hr hρ hfv
      split at h
      · rename_i g
        obtain ⟨args, ids, objs, rfl⟩ : ∃ args ids objs, r = .call g args ids objs o.dst := by
          unfold callS at h
          replace h := rd_bind _ _ _ h
          obtain ⟨_, _, h⟩ := h
          dsimp only at h
          replace h := rd_bind _ _ _ h
          obtain ⟨_, _, h⟩ := h
          exact ⟨_, _, _, rd_pure h⟩
        obtain ⟨_, _, objs0, bs, h3, h4, h5⟩ := callS_run hr hargs h
        refine ⟨g, args, ids, objs, _, objs0, bs, rfl, h3, h4, h5, ?_⟩
        simp only [execOp, ho, resolve, Sem.run_bind, Deferred.ofValue, hrf.fn, Sem.run_pure, Result.andThen_ok, invoke]
        congr 2
        apply Array.ext'
        simp
      · rename_i g first caps
        obtain ⟨u1, u2, c1, c2, c3⟩ := hrf.clo_inv
        obtain ⟨args, ids, objs, rfl⟩ : ∃ args ids objs, r = .call g args ids objs o.dst := by
          unfold callS at h
          replace h := rd_bind _ _ _ h
          obtain ⟨_, _, h⟩ := h
          dsimp only at h
          replace h := rd_bind _ _ _ h
          obtain ⟨_, _, h⟩ := h
          exact ⟨_, _, _, rd_pure h⟩
        obtain ⟨_, _, objs0, bs, h3, h4, h5⟩ := callS_run hr ((c2.toS.append hargs).append c3.toS) h
        refine ⟨g, args, ids, objs, _, objs0, bs, rfl, h3, h4, h5, ?_⟩
        simp only [execOp, ho, resolve, Sem.run_bind, Deferred.ofValue, c1, Sem.run_pure, Result.andThen_ok, invoke]
        congr 2
        apply Array.ext'
        simp
      · simp [Rd.run] at h
    · simp [Rd.run] at h
  · left
    replace h := rd_bind _ _ _ h
    obtain ⟨l, hl, h⟩ := h
    cases l with
    | ws l => exact ⟨l, rd_pure h, good_op hT hr hρ hl⟩
end
end Go.Ax
