/- A part of the proof of a law of this seat: no condition. -/
import Derived.Test.YtblmmaecklgbhaaAxCall3
set_option linter.unusedVariables false
set_option linter.unusedSimpArgs false
namespace Go.Ax
attribute [local simp] look_cons
section
variable {P : Program} {T : Nat → Option TI} {M : Mode} {H H' : Heap} {μ μ' : Oid → Option Nat} {F : Fr} {st st' : St} {tm tm' : Nat → Value} {w w' : World} {ρ : Operand → Value}

theorem good_op (hT : TabOk P T) (hr : Rel H μ F st tm w) (hρ : Env ρ tm) {o : Oper} {l : List Wr}
    (h : (opS T M o).run st = some (.ws l)) : Good P H μ F tm w o.dst (st.app l) (execOp ρ o) := by
  cases ho : o.op with
  | move x => exact good_move hT hr hρ ho h
  | assign x => exact good_assign hT hr hρ ho h
  | pick c a b => exact good_pick hr hρ ho h
  | alloc e => exact good_alloc hT hr hρ ho h
  | box e x => exact good_box hT hr hρ ho h
  | build t ps => exact good_build hT hr hρ ho h
  | buildSlice t n ps => exact good_buildSlice hT hr hρ ho h
  | load t a => exact good_load hT hr hρ ho h
  | store t a x => exact good_store hT hr hρ ho h
  | nilCheck x => exact good_nilCheck hr hρ ho h
  | binOp op t x y t' => exact good_binOp hT hr hρ ho h
  | unOp op t x => exact good_unOp hr hρ ho h
  | convert src dst x => exact good_convert hT hr hρ ho h
  | makeSlice t l c => exact good_makeSlice hT hr hρ ho h
  | makeMap t r => cases r with
    | none => exact good_makeMap hr ho h
    | some r => simp [opS, ho, Rd.run] at h
  | lookup t x k ok => exact good_lookup hT hr hρ ho h
  | mapUpdate t m k v => exact good_mapPut hT hr hρ (.inl ho) (by simpa [opS, ho] using h)
  | insert t m k v => exact good_mapPut hT hr hρ (.inr ho) (by simpa [opS, ho] using h)
  | mapEntry t m k => exact good_mapEntry hT hr hρ ho h
  | entryStore t m s v => exact good_entryStore hr hρ ho h
  | slice t x lo hi mx =>
    cases mx with
    | none => exact good_slice hT hr hρ ho h
    | some m => simp [opS, ho, Rd.run] at h
  | fieldAddr s x f => exact good_fieldAddr hT hr hρ ho h
  | indexAddr t x i => exact good_indexAddr hT hr hρ ho h
  | index t x i => exact good_index hT hr hρ ho h
  | extract x i => exact good_extract hr hρ ho h
  | call c =>
    obtain ⟨callee, args, at'⟩ := c
    cases callee with
    | builtin b =>
      cases b with
      | len => exact good_len hT hr hρ ho h
      | append => exact good_append hT hr hρ ho h
      | clear => exact good_clear hT hr hρ ho h
      | min => exact good_min hr hρ ho h
      | max => exact good_max hr hρ ho h
      | _ => simp [opS, ho, Rd.run] at h
    | invoke r m => simp [opS, ho, Rd.run] at h
    | value f => simp [opS, ho, Rd.run] at h
  | _ => simp [opS, ho, Rd.run] at h

theorem getObs_run {ids : List Oid} {objs : List Ob} (h : (getObs ids).run st = some objs) : objs.length = ids.length ∧ ∀ j (hj : j < ids.length) (hj' : j < objs.length), st.ob ids[j] = some objs[j] ∧ objs[j].alive = true := by
  induction ids generalizing objs with
  | nil => simp [getObs, Rd.run] at h; subst h; simp
  | cons o ids ih =>
    simp only [getObs, Rd.run] at h
    split at h
    · simp [Rd.run] at h
    · simp [Rd.run] at h
    · rename_i c hnd hc
      replace h := rd_bind _ _ _ h
      obtain ⟨l, hl, h⟩ := h
      have := rd_pure h
      subst this
      obtain ⟨h1, h2⟩ := ih hl
      refine ⟨by simp [h1], fun j hj hj' => ?_⟩
      cases j with
      | zero =>
        simp only [List.getElem_cons_zero]
        refine ⟨hc, ?_⟩
        cases c with
        | dead => exact (hnd rfl).elim
        | _ => rfl
      | succ j => exact h2 j (by simpa using hj) (by simpa using hj')

theorem RepC.toS {xs : List V} {us : List Value} (h : RepC H μ xs us) : RepArgs H μ xs us :=
  ⟨h.length, fun j hj hj' => .two _ _ (.one _ _ (h.get j hj hj').2.2)⟩
theorem RepArgs.append {a b us vs} (h : RepArgs H μ a us) (h' : RepArgs H μ b vs) : RepArgs H μ (a ++ b) (us ++ vs) := by
  refine ⟨by simp [h.len, h'.len], fun j hj hj' => ?_⟩
  have hl := h.len
  by_cases e : j < a.length
  · rw [List.getElem_append_left e, List.getElem_append_left (hl ▸ e)]
    exact h.get _ _ _
  · rw [List.getElem_append_right (by omega), List.getElem_append_right (by omega)]
    simp only [hl]
    exact h'.get _ _ _
theorem dedup_mem : ∀ (l acc : List Oid) (o : Oid), o ∈ dedup acc l → o ∈ acc ∨ o ∈ l := by
  intro l
  induction l with
  | nil => intro acc o h; exact .inl h
  | cons u l ih =>
    intro acc o h
    simp only [dedup] at h
    split at h
    · rcases ih _ _ h with h | h
      · exact .inl h
      · exact .inr (by simp [h])
    · rcases ih _ _ h with h | h
      · rcases List.mem_append.1 h with h | h
        · exact .inl h
        · simp at h; subst h; exact .inr (by simp)
      · exact .inr (by simp [h])
theorem mvOf_lt {ids : List Oid} {args : List V} {objs : List Ob} {j : Nat} (h : j ∈ mvOf args (objs.map (Ob.ren (toPar ids)))) : j < ids.length := by
  simp only [mvOf, List.mem_filterMap] at h
  obtain ⟨o, h1, h2⟩ := h
  have h3 : o = .par j := by
    split at h2
    · split at h2
      · simp at h2
      · simp at h2; subst h2; rfl
    · simp at h2
  subst h3
  rcases dedup_mem _ _ _ h1 with h | h
  · simp at h
  · simp only [List.mem_flatMap, List.mem_map] at h
    obtain ⟨x, ⟨y, _, rfl⟩, hx⟩ := h
    cases y with
    | cells row l =>
      cases row with
      | true => simp [Ob.ren, Ob.slRefs] at hx
      | false =>
        simp only [Ob.ren, Ob.slRefs, List.mem_flatMap, List.mem_map] at hx
        obtain ⟨z, ⟨q, _, rfl⟩, hz⟩ := hx
        cases q with
        | sl sz o n =>
          simp only [ren1] at hz
          cases ht : toPar ids o with
          | none => rw [ht] at hz; simp [slRefs1] at hz
          | some u =>
            rw [ht] at hz
            simp only [slRefs1, List.mem_singleton] at hz
            subst hz
            obtain ⟨j', h4, h5⟩ := toPar_some ht
            injection h4 with h4
            subst h4
            exact (List.getElem?_eq_some_iff.1 h5).1
        | ref o off => simp only [ren1] at hz; cases ht : toPar ids o <;> rw [ht] at hz <;> simp [slRefs1] at hz
        | mp o => simp only [ren1] at hz; cases ht : toPar ids o <;> rw [ht] at hz <;> simp [slRefs1] at hz
        | _ => simp [ren1, slRefs1] at hz
    | map => simp [Ob.ren, Ob.slRefs] at hx
    | dead => simp [Ob.ren, Ob.slRefs] at hx

/-- A call: what stands ahead of it, and what its contract leaves. -/
def CallStep (P : Program) (H : Heap) (μ : Oid → Option Nat) (F : Fr) (st : St) (tm : Nat → Value) (w : World) (dst : Option Nat) (args : List V) (objs : List Ob) (nw : Nat) (way : Way) (us : List Value) : Prop :=
  args.length = us.length ∧ ∃ (Fc : Fr) (μc : Oid → Option Nat), Fc.B = F.B ∧ Rel H μc Fc (conSt args objs []) (argTm us) w ∧
    ∀ (r : V) (objs' news : List Ob) (v : Value) (H' : Heap) (μ' : Oid → Option Nat) (F' : Fr) (w' : World), objs'.length = objs.length → news.length ≤ nw → F'.F = Fc.F → F'.B = F.B →
      (∀ j, j < objs.length → j ∉ mvOf args objs → μ' (.par j) = μc (.par j)) → Rel H' μ' F' (conSt [r] objs' news) (upd noTm 0 v) w' → Ext Fc H w H' w' →
      ∃ μ2, Rel H' μ2 F (st.app (back way r objs' news)) (after dst tm v) w' ∧ Ext F H w H' w'

theorem callS_run (hr : Rel H μ F st tm w) {f g : FuncId} {vs : List V} {us : List Value} (hvs : RepArgs H μ vs us) {gv : Option (Nat × Nat)} {nw nw' : Nat} {dst : Option Nat} {args objs way}
    (hgv : ∀ j t, gv = some (j, t) → ∃ ti, vs[j]? = some (fixT ti (st.tm t)) ∧ us[j]? = some (tm t))
    (h : (callS gv nw f vs dst).run st = some (.call g args objs nw' way)) :
    g = f ∧ CallStep P H μ F st tm w dst args objs nw' way us := by
  unfold callS at h
  replace h := rd_bind _ _ _ h
  obtain ⟨o0, _, h⟩ := h
  dsimp only at h
  replace h := rd_bind _ _ _ h
  obtain ⟨o1, _, h⟩ := h
  replace h := rd_bind _ _ _ h
  obtain ⟨objs0, h0, h⟩ := h
  replace h := rd_bind _ _ _ h
  obtain ⟨_, hf, h⟩ := h
  have := rd_pure h
  simp only [Res.call.injEq] at this
  obtain ⟨rfl, rfl, rfl, rfl, rfl⟩ := this
  obtain ⟨h1, h2⟩ := getObs_run h0
  generalize hids : dedup (dedup (dedup [] (vs.flatMap refsV)) (o0.flatMap Ob.refs)) (o1.flatMap Ob.refs) = ids at *
  have hnd : ids.Nodup := by
    rw [← hids]
    exact dedup_nodup _ _ (dedup_nodup _ _ (dedup_nodup _ _ List.nodup_nil))
  have p : Pass st ids objs0 := ⟨hnd, h1, h2⟩
  generalize hmv : mvOf ((weakBut gv vs).map (renV (toPar ids))) (objs0.map (Ob.ren (toPar ids))) = mv at *
  have hfr := fresh_run hf
  refine ⟨rfl, by rw [List.length_map, weakBut_len, hvs.len], passF F.B μ st tm w ids (gv.map (·.2)), parMu ids μ, rfl, ?_, ?_⟩
  · refine p.pre hr hvs fun j t hg sz xs b off n c e1 e2 => ?_
    obtain ⟨ti, k1, k2⟩ := hgv j t hg
    rw [e1] at k1
    rw [e2] at k2
    injection k1 with k1
    injection k2 with k2
    refine ⟨?_, k2.symm⟩
    by_cases hn : st.tm t = .nils
    · have := hr.env t
      rw [hn] at this
      rw [this.nils] at k2
      simp at k2
    · have : fixT ti (st.tm t) = st.tm t := by
        unfold fixT
        split
        · rename_i e; exact absurd e hn
        · rfl
      rw [← this]; exact k1.symm
  · intro r objs' news v H' μ' F' w' hl hnw hFF hFB hfix hrel hx
    have hpre : ∃ hr1 : Rel H μ F (st.app (preOf gv vs)) tm w, (∀ o, (st.app (preOf gv vs)).ob o = st.ob o) ∧ (∀ t, gv.map (·.2) = some t → ∀ b, Holds μ st tm w (.t t) b → ∀ ℓ, ¬ Holds μ (st.app (preOf gv vs)) tm w ℓ b) ∧
        ∀ ℓ b, Holds μ (st.app (preOf gv vs)) tm w ℓ b → Holds μ st tm w ℓ b := by
      cases gv with
      | none => exact ⟨hr, fun _ => rfl, by simp, fun _ _ h => h⟩
      | some q =>
        obtain ⟨j, t⟩ := q
        obtain ⟨ti, k1, k2⟩ := hgv j t rfl
        simp only [preOf, St.app]
        have hv : vs.getD j .any = fixT ti (st.tm t) := by rw [List.getD_eq_getElem?_getD, k1]; rfl
        rw [hv]
        have hno : ∀ sz xs, (fixT ti (st.tm t)).weak ≠ .own sz xs := by
          intro sz xs e
          have := weak_not_own (fixT ti (st.tm t))
          rw [e] at this
          simp [V.isOwn] at this
        have hput := hr.put (t := t) (x := (fixT ti (st.tm t)).weak) (v := tm t) (fixT_rep' (hr.env t)).weak (fun sz xs b off n c e => absurd e (hno sz xs))
        have hup : upd tm t (tm t) = tm := by
          funext a
          by_cases e : a = t
          · subst e; simp [upd]
          · simp [upd, e]
        rw [hup] at hput
        have hat : ∀ ℓ b, Holds μ (st.put t (fixT ti (st.tm t)).weak) tm w ℓ b → ℓ ≠ .t t ∧ Holds μ st tm w ℓ b := by
          rintro ℓ b ⟨sz, xs, off, n, c, hl⟩
          cases ℓ with
          | t m =>
            obtain ⟨g1, g2⟩ := hl
            rw [St.tm_put] at g1
            split at g1
            · exact absurd g1 (hno _ _)
            · rename_i hne
              exact ⟨by simp; exact fun e => hne e.symm, sz, xs, off, n, c, g1, g2⟩
          | o u k => exact ⟨by simp, sz, xs, off, n, c, hl⟩
        refine ⟨hput, fun _ => rfl, fun t' ht b hb ℓ hl => ?_, fun ℓ b hl => (hat ℓ b hl).2⟩
        simp at ht
        subst ht
        obtain ⟨a1, a2⟩ := hat ℓ b hl
        exact a1 (hr.ownInj _ _ _ a2 hb)
    obtain ⟨hr1, q1, q2, q3⟩ := hpre
    refine ⟨postMu ids mv dst news.length μ μ', ?_⟩
    refine p.post hr hr1 q1 q2 q3 (fun j hj => ?_) (fun j hj o ho => hfr _ (by simp only [List.mem_append, List.mem_filterMap]; exact .inl ⟨j, hj, by rw [ho]; rfl⟩)) (fun d hd i hi => hfr _ ?_) (by simpa [h1] using hl)
      (fun j hj hjm => hfix j (by simpa [h1] using hj) (by rw [hmv]; exact hjm)) hFF hFB hrel hx
    · rw [← hmv] at hj
      exact mvOf_lt hj
    · subst hd
      simp only [List.mem_append, List.mem_map, List.mem_range]
      exact .inr ⟨i, by omega, rfl⟩

theorem RepS.clo_inv {g : FuncId} {first caps : List V} {v : Value} (h : RepS H μ (.clo g first caps) v) :
    ∃ u1 u2 : List Value, v = .func (.func g) u1.toArray u2.toArray ∧ RepC H μ first u1 ∧ RepC H μ caps u2 := by
  cases h with
  | two _ _ h => cases h with
    | clo _ _ _ us vs h h' => exact ⟨us, vs, rfl, h, h'⟩
    | one _ _ h => cases h with | data _ _ h => cases h

/-- Every operation: what it writes, or the call that it makes. -/
theorem opF_run (hT : TabOk P T) (hr : Rel H μ F st tm w) (hρ : Env ρ tm) {o : Oper} {r : Res} (h : (opF T M o).run st = some r) :
    (∃ l, r = .ws l ∧ Good P H μ F tm w o.dst (st.app l) (execOp ρ o)) ∨
    ∃ f args objs nw way us, r = .call f args objs nw way ∧ CallStep P H μ F st tm w o.dst args objs nw way us ∧ (execOp ρ o).run P w = (callFunc f us.toArray).run P w := by
  have hform : ∀ (gv : Option (Nat × Nat)) (nw : Nat) (f : FuncId) (vs : List V) (dst : Option Nat), (callS gv nw f vs dst).run st = some r → ∃ args objs nw' way, r = .call f args objs nw' way := by
    intro gv nw f vs dst h
    unfold callS at h
    replace h := rd_bind _ _ _ h
    obtain ⟨_, _, h⟩ := h
    dsimp only at h
    replace h := rd_bind _ _ _ h
    obtain ⟨_, _, h⟩ := h
    replace h := rd_bind _ _ _ h
    obtain ⟨_, _, h⟩ := h
    replace h := rd_bind _ _ _ h
    obtain ⟨_, _, h⟩ := h
    exact ⟨_, _, _, _, rd_pure h⟩
  unfold opF at h
  split at h
  · rename_i fo as_ at' ho
    right
    replace h := rd_bind _ _ _ h
    obtain ⟨vs, hvs, h⟩ := h
    obtain ⟨e1, e2⟩ := evs_rep hr hρ hvs
    dsimp only at h
    split at h
    · rename_i hlen
      have hargs : RepArgs H μ (vs.zipWith (fun v t => fixT (T t) v) at'.toList) (as_.toList.map ρ) := by
        refine ⟨by rw [hlen]; simp, fun j hj hj' => ?_⟩
        simp only [List.getElem_zipWith, List.getElem_map]
        have hjv : j < vs.length := by simp at hj; omega
        exact fixT_rep' (e2 j hjv (by simpa using hj')).1
      have hgv : ∀ (f : FuncId) (j t : Nat), gvOf M f as_.toList = some (j, t) → ∃ ti, (vs.zipWith (fun v t => fixT (T t) v) at'.toList)[j]? = some (fixT ti (st.tm t)) ∧ (as_.toList.map ρ)[j]? = some (tm t) := by
        intro f j t hg
        unfold gvOf at hg
        split at hg
        · split at hg
          · rename_i i _ _ t' ht'
            simp at hg
            obtain ⟨rfl, rfl⟩ := hg
            obtain ⟨hlt, hx⟩ := List.getElem?_eq_some_iff.1 ht'
            have hjl : i < (vs.zipWith (fun v t => fixT (T t) v) at'.toList).length := by rw [hlen]; simpa using hlt
            have hjv : i < vs.length := by simp at hjl; omega
            have hev := (e2 i hjv (by simpa using hlt)).2
            rw [hx] at hev
            simp [ev, Rd.run] at hev
            refine ⟨T (at'.toList[i]'(by simp at hjl ⊢; omega)), ?_, ?_⟩
            · rw [List.getElem?_eq_getElem hjl, List.getElem_zipWith, hev]
            · rw [List.getElem?_map, ht', Option.map_some, hρ.tmp]
          · simp at hg
        · simp at hg
      split at h
      · rename_i g
        obtain ⟨args, objs, nw', way, rfl⟩ := hform _ _ _ _ _ h
        obtain ⟨_, h3⟩ := callS_run (P := P) hr hargs (hgv g) h
        refine ⟨g, args, objs, nw', way, _, rfl, h3, ?_⟩
        have hrf := hρ.func g
        simp only [execOp, ho, resolve, Sem.run_bind, Deferred.ofValue, hrf, Sem.run_pure, Result.andThen_ok, invoke]
        congr 2
        apply Array.ext'
        simp
      · replace h := rd_bind _ _ _ h
        obtain ⟨fv, hfv, h⟩ := h
        have hrf := ev_rep hr hρ hfv
        split at h
        · rename_i g
          obtain ⟨args, objs, nw', way, rfl⟩ := hform _ _ _ _ _ h
          obtain ⟨_, h3⟩ := callS_run (P := P) hr hargs (by simp) h
          refine ⟨g, args, objs, nw', way, _, rfl, h3, ?_⟩
          simp only [execOp, ho, resolve, Sem.run_bind, Deferred.ofValue, hrf.fn, Sem.run_pure, Result.andThen_ok, invoke]
          congr 2
          apply Array.ext'
          simp
        · rename_i g first caps
          obtain ⟨u1, u2, c1, c2, c3⟩ := hrf.clo_inv
          obtain ⟨args, objs, nw', way, rfl⟩ := hform _ _ _ _ _ h
          obtain ⟨_, h3⟩ := callS_run (P := P) hr ((c2.toS.append hargs).append c3.toS) (by simp) h
          refine ⟨g, args, objs, nw', way, _, rfl, h3, ?_⟩
          simp only [execOp, ho, resolve, Sem.run_bind, Deferred.ofValue, c1, Sem.run_pure, Result.andThen_ok, invoke]
          congr 2
          apply Array.ext'
          simp
        · simp [Rd.run] at h
    · simp [Rd.run] at h
  · left
    replace h := rd_bind _ _ _ h
    obtain ⟨l, hl, h⟩ := h
    cases l with
    | ws l => exact ⟨l, rd_pure h, good_op hT hr hρ hl⟩
end
end Go.Ax
