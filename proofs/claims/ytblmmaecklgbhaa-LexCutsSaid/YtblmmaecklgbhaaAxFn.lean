/- A part of the proof of a law of this seat: no condition. -/
import Derived.Test.YtblmmaecklgbhaaAxFun
set_option linter.unusedVariables false
set_option linter.unusedSimpArgs false
namespace Go.Ax
attribute [local simp] look_cons
section
variable {P : Program} {T : Nat → Option TI} {H H' : Heap} {μ μ' : Oid → Option Nat} {F : Fr} {st st' : St} {tm tm' : Nat → Value} {w w' : World}

theorem argsFrom_look (args : List V) : ∀ (k t : Nat), look t (argsFrom k args) = if k ≤ t then (args[t - k]?).getD .any else .any := by
  induction args with
  | nil => intro k t; simp [argsFrom, look]
  | cons x r ih =>
    intro k t
    simp only [argsFrom, look, ih]
    by_cases h : k = t
    · subst h; simp
    · rw [if_neg h]
      by_cases h2 : k ≤ t
      · rw [if_pos (by omega), if_pos h2, show t - k = (t - (k + 1)) + 1 from by omega, List.getElem?_cons_succ]
      · rw [if_neg (by omega), if_neg h2]

theorem init_rel {args : List V} {objs : List Ob} {bs : List Nat} {vs : List Value} {m : Nat} (hr : Rel H (parMap bs) F ⟨[], parObs objs⟩ noTm w) (ha : RepArgs H (parMap bs) args vs)
    (hno : ∀ x ∈ args, x.isOwn = false) : Rel H (parMap bs) F (initSt args objs) (fun t => (vs.toArray ++ Array.replicate m undef).getD t undef) w := by
  have htm : ∀ t, (initSt args objs).tm t = (args[t]?).getD .any := by intro t; simp [initSt, St.tm, argsFrom_look]
  have hat : ∀ ℓ sz xs b off n c, atL (parMap bs) (initSt args objs) (fun t => (vs.toArray ++ Array.replicate m undef).getD t undef) w ℓ (.own sz xs) (.slice (some ⟨b, off, none⟩) n c) →
      atL (parMap bs) ⟨[], parObs objs⟩ noTm w ℓ (.own sz xs) (.slice (some ⟨b, off, none⟩) n c) := by
    intro ℓ sz xs b off n c hl
    cases ℓ with
    | t k =>
      obtain ⟨h1, _⟩ := hl
      rw [htm] at h1
      cases hq : args[k]? with
      | none => rw [hq] at h1; simp at h1
      | some x =>
        rw [hq] at h1
        simp at h1
        have := hno x (List.mem_of_getElem? hq)
        rw [h1] at this
        simp [V.isOwn] at this
    | o o k => exact hl
  refine ⟨fun t => ?_, hr.heap, hr.dom, hr.obs, hr.inj, hr.objH, hr.objF, hr.Flt, fun ℓ sz xs b off n c hl => hr.own _ _ _ _ _ _ _ (hat _ _ _ _ _ _ _ hl), ?_, hr.par, hr.base⟩
  · rw [htm]
    cases hq : args[t]? with
    | none => exact .two _ _ (.one _ _ (.any _))
    | some x =>
      obtain ⟨hlt, he⟩ := List.getElem?_eq_some_iff.1 hq
      have hlt' : t < vs.length := by rw [← ha.len]; exact hlt
      have := ha.get t hlt hlt'
      rw [he] at this
      have hv : (vs.toArray ++ Array.replicate m undef).getD t undef = vs[t] := by
        rw [Array.getD_eq_getD_getElem?, Array.getElem?_append_left (by simpa using hlt')]
        simp [hlt']
      rw [hv]
      exact this
  · rintro ℓ ℓ' b ⟨sz1, xs1, off1, n1, c1, h1⟩ ⟨sz2, xs2, off2, n2, c2, h2⟩
    exact hr.ownInj _ _ _ ⟨_, _, _, _, _, hat _ _ _ _ _ _ _ h1⟩ ⟨_, _, _, _, _, hat _ _ _ _ _ _ _ h2⟩

def resRun (a : Act) : ResultVar → Sem Value
  | .tmp t => pure (a.tmps.getD t undef)
  | .cell b t => do loadVar t (← asAddr (a.tmps.getD b undef))
/-- One result. -/
theorem resV_run (hT : TabOk P T) {a : Act} (hr : Rel H μ F st (tmOf a) w) {x : ResultVar} {v : V} (h : resV T st x = some v) :
    ∃ u, (resRun a x).run P w = .ok u w ∧ RepS H μ v u ∧
      (v.isOwn = true → ∃ t, x = .tmp t ∧ st.tm t = v ∧ tmOf a t = u) := by
  cases x with
  | tmp t =>
    simp [resV] at h
    exact ⟨tmOf a t, rfl, h ▸ hr.env t, fun _ => ⟨t, rfl, h, rfl⟩⟩
  | cell b t =>
    simp only [resV] at h
    split at h
    · rename_i u off ti hb hti
      split at h
      · rename_i cs hob
        have hti := hT _ _ hti
        cases hg : getS ti cs off with
        | none => rw [hg] at h; simp at h
        | some y =>
          rw [hg] at h
          simp at h
          subst h
          obtain ⟨bb, hbb, e⟩ := (hb ▸ hr.env b).ref
          obtain ⟨b', hb', vs, ty, hblk, hrep⟩ := hr.obs _ _ hob
          obtain rfl : bb = b' := by rw [hbb] at hb'; injection hb'
          obtain ⟨v, g1, g2, _⟩ := load_run (w := w) (P := P) (o0 := 0) hti hrep (fun j hj => by rw [cell?_of hblk, Nat.zero_add]; simp) hg
          rw [Nat.zero_add] at g1
          refine ⟨v, ?_, (RepS.two _ _ g2).weak, fun h => by rw [weak_not_own] at h; simp at h⟩
          have e' : a.tmps.getD b undef = .pointer (some ⟨bb, off, none⟩) := e
          simp only [Instr.loadAt, Instr.sureAddr, Sem.run_bind, Sem.run_pure, Result.andThen_ok] at g1
          simp only [resRun, e', asAddr, Sem.run_bind, Sem.run_pure, Result.andThen_ok]
          exact g1
      · simp at h
    · simp at h
theorem weak_isTup {v : V} : v.weak.isTup = v.isTup := by cases v <;> rfl
theorem RepS.to2 {v : V} {u : Value} (h : RepS H μ v u) (ht : v.isTup = false) : Rep2 H μ v u := by
  cases h with
  | two _ _ h => exact h
  | tup => simp [V.isTup] at ht
theorem resL_run (hT : TabOk P T) {a : Act} (hr : Rel H μ F st (tmOf a) w) : ∀ (l : List ResultVar) {vs : List V}, resL T st l = some vs →
    ∃ us : List Value, (l.mapM (m := Sem) (resRun a)).run P w = .ok us w ∧ RepT H μ vs us ∧ us.length = l.length := by
  intro l
  induction l with
  | nil => intro vs h; simp [resL] at h; subst h; exact ⟨[], by simp, .nil, rfl⟩
  | cons x r ih =>
    intro vs h
    simp only [resL] at h
    split at h
    · rename_i v l hv hl
      split at h
      · simp at h
      · rename_i ht
        injection h with h
        subst h
        obtain ⟨u, h1, h2, _⟩ := resV_run (P := P) hT hr hv
        obtain ⟨us, g1, g2, g3⟩ := ih hl
        refine ⟨u :: us, ?_, .cons _ _ _ _ (h2.weak.to2 (by rw [weak_isTup]; simpa using ht)) g2, by simp [g3]⟩
        rw [List.mapM_cons]
        simp only [Sem.run_bind, Sem.run_pure, h1, Result.andThen_ok, g1]
    · simp at h

theorem parsOf_get : ∀ (n k : Nat) {l : List Ob}, parsOf st k n = some l → l.length = n ∧ ∀ j (hj : j < l.length), ∃ x, st.ob (.par (k + j)) = some x ∧ l[j] = x.ren parOnly := by
  intro n
  induction n with
  | zero => intro k l h; simp [parsOf] at h; subst h; simp
  | succ n ih =>
    intro k l h
    simp only [parsOf] at h
    split at h
    · rename_i x l' hx hl
      injection h with h
      subst h
      obtain ⟨h1, h2⟩ := ih (k + 1) hl
      refine ⟨by simp [h1], fun j hj => ?_⟩
      cases j with
      | zero => exact ⟨x, by simpa using hx, rfl⟩
      | succ j =>
        obtain ⟨y, h3, h4⟩ := h2 j (by simpa using hj)
        exact ⟨y, by rw [show k + (j + 1) = k + 1 + j from by omega]; exact h3, by simpa using h4⟩
    · simp at h

theorem results_eq (fn : Func) (tmps : Array Value) (D : List Deferred) : results fn tmps = (do let vs ← fn.results.mapM (resRun ⟨tmps, D⟩); pure (if h : vs.size = 1 then vs[0] else .tuple vs)) := by
  unfold results
  congr 2
/-- All results. -/
theorem resS_run (hT : TabOk P T) {a : Act} (hr : Rel H μ F st (tmOf a) w) {fn : Func} {v : V} (h : resS T st fn.results.toList = some v) :
    ∃ u, (results fn a.tmps).run P w = .ok u w ∧ RepS H μ v u ∧ (v.isOwn = true → ∃ t, st.tm t = v ∧ tmOf a t = u) := by
  rw [results_eq fn a.tmps a.defers, Array.mapM_eq_mapM_toList]
  simp only [bind_map_left, Sem.run_bind]
  unfold resS at h
  split at h
  · rename_i x hx
    obtain ⟨u, h1, h2, h3⟩ := resV_run (P := P) hT hr h
    refine ⟨u, ?_, h2, fun ho => by obtain ⟨t, _, h4, h5⟩ := h3 ho; exact ⟨t, h4, h5⟩⟩
    rw [hx]
    simp [h1]
  · rename_i hne
    cases hl : resL T st fn.results.toList with
    | none => rw [hl] at h; simp at h
    | some vs =>
      rw [hl] at h
      simp at h
      subst h
      obtain ⟨us, h1, h2, h3⟩ := resL_run (P := P) hT hr _ hl
      refine ⟨.tuple us.toArray, ?_, .tup _ _ h2, fun h => by simp [V.isOwn] at h⟩
      rw [h1]
      simp only [Result.andThen_ok, Sem.run_pure]
      have : us.toArray.size ≠ 1 := by
        simp only [List.size_toArray, h3]
        intro hl1
        match hq : fn.results.toList, hl1 with
        | [x], _ => exact hne x hq
      rw [dif_neg this]

/-- What a body is proved to do, as a contract. -/
theorem callOk_of {B : Heap} {f : FuncId} {fn : Func} {code : Code} (hT : TabOk P T) (hm : P.follows .mixedOrders = true) (hf : P.funcs[f]? = some fn) (hb : fn.body = some code)
    (henter : ∀ (as_ : Array Value) (w : World), (callFunc f as_).run P w = .ok (.enter f as_) w) (hint : Nat → Hint) {resT : List Nat} {args : List V} {objs : List Ob} {r : V} {objs' : List Ob}
    (hd : dstsOk fn.ntmps code = true) (hn : args.length ≤ fn.ntmps) (hno : ∀ x ∈ args, x.isOwn = false) (hlen : objs'.length = objs.length)
    (h : awp ⟨CallOk P B, T, hint, resT⟩ code (initSt args objs) fun e st => (e = .ret ∨ e = .normal) ∧ (resS T st fn.results.toList).map (renV parOnly) = some r ∧ parsOf st 0 objs.length = some objs') :
    CallOk P B f args objs r objs' := by
  refine ⟨henter, hlen, fun H F w bs vs hFB hbs hG hr ha => ?_⟩
  subst hFB
  refine calls_of_wp hf hb ?_
  have hvl : vs.length ≤ fn.ntmps := by rw [← ha.len]; exact hn
  have hat : AtS H (parMap bs) F (initSt args objs) { tmps := vs.toArray ++ Array.replicate (fn.ntmps - vs.toArray.size) undef, defers := [] } w fn.ntmps [] :=
    ⟨init_rel hr ha hno, by simp; omega, rfl⟩
  refine awp_sound ⟨CallOk P F.B, T, hint, resT⟩ rfl hT hm code hd h hat fun e st' a' w' H' μ' hq hat' hx => ?_
  obtain ⟨hex, hres, hpar⟩ := hq
  cases hr0 : resS T st' fn.results.toList with
  | none => rw [hr0] at hres; simp at hres
  | some r0 =>
  rw [hr0] at hres
  simp at hres
  obtain ⟨u, h1, h2, h3⟩ := resS_run (P := P) hT hat'.rel hr0
  obtain ⟨p1, p2⟩ := parsOf_get _ _ hpar
  have hμ : ∀ j b, μ' (.par j) = some b → bs[j]? = some b := fun j b hb => hG j b (hat'.rel.par j b hb)
  have hblk : ∀ j, j < bs.length → ∃ b x, μ' (.par j) = some b ∧ bs[j]? = some b ∧ st'.ob (.par j) = some x ∧ objs'[j]? = some (x.ren parOnly) := by
    intro j hj
    have hj' : j < objs'.length := by rw [p1, ← hbs]; exact hj
    obtain ⟨x, hx1, hx2⟩ := p2 j hj'
    rw [Nat.zero_add] at hx1
    obtain ⟨b, hb, _⟩ := hat'.rel.obs _ _ hx1
    exact ⟨b, x, hb, hμ j b hb, hx1, by rw [List.getElem?_eq_getElem hj', hx2]⟩
  have hμ2 : ∀ o b, parMap bs o = some b → ∃ j x, o = .par j ∧ μ' (.par j) = some b ∧ st'.ob (.par j) = some x ∧ objs'[j]? = some (x.ren parOnly) := by
    intro o b hb
    cases o with
    | loc t => simp [parMap] at hb
    | par j =>
      simp only [parMap] at hb
      obtain ⟨hlt, _⟩ := List.getElem?_eq_some_iff.1 hb
      obtain ⟨b', x, g1, g2, g3, g4⟩ := hblk j hlt
      rw [hb] at g2
      injection g2 with g2
      subst g2
      exact ⟨j, x, rfl, g1, g3, g4⟩
  have hf' : ∀ o u b, parOnly o = some u → μ' o = some b → parMap bs u = some b := by
    intro o u b h1 h2
    cases o with
    | loc t => simp [parOnly] at h1
    | par j =>
      simp [parOnly] at h1
      subst h1
      exact hμ j b h2
  have hpost : ∃ v H', Ending.returned u = .returned v ∧ Rel H' (parMap bs) F ⟨[(0, r)], parObs objs'⟩ (upd noTm 0 v) w' ∧ Ext F H w H' w' := by
    refine ⟨u, H', rfl, ?_, hx⟩
    -- rows: each has its place in the last state
    have hatl : ∀ ℓ sz xs b off n c, atL (parMap bs) ⟨[(0, r)], parObs objs'⟩ (upd noTm 0 u) w' ℓ (.own sz xs) (.slice (some ⟨b, off, none⟩) n c) →
        ∃ ℓ', atL μ' st' (tmOf a') w' ℓ' (.own sz xs) (.slice (some ⟨b, off, none⟩) n c) ∧ ((ℓ = .t 0 ∧ ∃ t, ℓ' = .t t) ∨ (∃ j k, ℓ = .o (.par j) k ∧ ℓ' = ℓ)) := by
      intro ℓ sz xs b off n c hl
      cases ℓ with
      | t m =>
        obtain ⟨g1, g2⟩ := hl
        simp only [St.tm, look] at g1
        split at g1
        · rename_i hm0
          subst hm0
          simp [upd] at g2
          rw [← hres, renV_own] at g1
          obtain ⟨t, g3, g4⟩ := h3 (by rw [g1]; rfl)
          exact ⟨.t t, ⟨g3.trans g1, g4.trans g2⟩, .inl ⟨rfl, t, rfl⟩⟩
        · simp at g1
      | o o k =>
        obtain ⟨cs, b', g1, g2, g3, g4⟩ := hl
        obtain ⟨j, x, rfl, k1, k2, k3⟩ := hμ2 o b' g2
        rw [parObs_ob] at g1
        simp only at g1
        rw [k3] at g1
        cases x with
        | cells cs0 =>
          simp [Ob.ren] at g1
          subst g1
          simp only [List.getElem?_map] at g3
          cases hk : cs0[k]? with
          | none => rw [hk] at g3; simp at g3
          | some y =>
            rw [hk] at g3
            simp at g3
            rw [ren1_own] at g3
            subst g3
            exact ⟨.o (.par j) k, ⟨cs0, b', k2, k1, hk, g4⟩, .inr ⟨j, k, rfl, rfl⟩⟩
    refine ⟨fun t => ?_, hat'.rel.heap, fun o ho => ?_, fun o x hxo => ?_, fun o o' b g1 g2 => ?_, fun o b g1 => ?_, fun o b g1 => ?_, hat'.rel.Flt, fun ℓ sz xs b off n c hl => ?_, ?_, fun j b hb => hr.par j b hb, hat'.rel.base⟩
    · simp only [St.tm, look, upd]
      by_cases e : t = 0
      · subst e
        simp only [if_pos]
        rw [← hres]
        exact h2.ren hf'
      · rw [if_neg (Ne.symm e)]
        exact .two _ _ (.one _ _ (.any _))
    · cases hq : parMap bs o with
      | none => rfl
      | some b =>
        obtain ⟨j, x, rfl, k1, k2, k3⟩ := hμ2 o b hq
        rw [parObs_ob] at ho
        simp only at ho
        rw [k3] at ho
        simp at ho
    · rw [parObs_ob] at hxo
      cases o with
      | loc t => simp at hxo
      | par j =>
        simp only at hxo
        have hlt : j < bs.length := by rw [hbs, ← p1]; exact (List.getElem?_eq_some_iff.1 hxo).1
        obtain ⟨b, y, g1, g2, g3, g4⟩ := hblk j hlt
        rw [hxo] at g4
        injection g4 with g4
        subst g4
        obtain ⟨b', hb', hrep⟩ := hat'.rel.obs _ _ g3
        rw [g1] at hb'
        injection hb' with hb'
        subst hb'
        refine ⟨b, g2, ?_⟩
        cases y with
        | cells cs =>
          obtain ⟨vs', ty, q1, q2⟩ := hrep
          exact ⟨vs', ty, q1, q2.ren hf'⟩
    · obtain ⟨j, x, rfl, k1, _⟩ := hμ2 o b g1
      obtain ⟨j', x', rfl, k1', _⟩ := hμ2 o' b g2
      exact hat'.rel.inj _ _ _ k1 k1'
    · obtain ⟨j, x, rfl, k1, _⟩ := hμ2 o b g1
      exact hat'.rel.objH _ _ k1
    · obtain ⟨j, x, rfl, k1, _⟩ := hμ2 o b g1
      exact hat'.rel.objF _ _ k1
    · obtain ⟨ℓ', hl', _⟩ := hatl _ _ _ _ _ _ _ hl
      obtain ⟨q1, q2, q3, q4⟩ := hat'.rel.own _ _ _ _ _ _ _ hl'
      exact ⟨q1, q2, fun o ho => by obtain ⟨j, x, rfl, k1, _⟩ := hμ2 o b ho; exact q3 _ k1, q4⟩
    · rintro ℓ ℓ' b ⟨sz1, xs1, off1, n1, c1, g1⟩ ⟨sz2, xs2, off2, n2, c2, g2⟩
      obtain ⟨q1, a1, a2⟩ := hatl _ _ _ _ _ _ _ g1
      obtain ⟨q2, b1, b2⟩ := hatl _ _ _ _ _ _ _ g2
      have := hat'.rel.ownInj _ _ _ ⟨_, _, _, _, _, a1⟩ ⟨_, _, _, _, _, b1⟩
      subst this
      rcases a2 with ⟨rfl, t, e⟩ | ⟨j, k, e1, e2⟩ <;> rcases b2 with ⟨rfl, t', e'⟩ | ⟨j', k', e1', e2'⟩
      · rfl
      · rw [e2', e1'] at e; simp at e
      · rw [e2, e1] at e'; simp at e'
      · rw [← e2, e2']
  rcases hex with rfl | rfl
  · exact ⟨hat'.defers, u, h1, hpost⟩
  · exact ⟨hat'.defers, u, h1, hpost⟩
end
end Go.Ax
