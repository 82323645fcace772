/- A part of the proof of a law of this seat: no condition. -/
import Derived.Test.YtblmmaecklgbhaaAxFun
set_option linter.unusedVariables false
set_option linter.unusedSimpArgs false
namespace Go.Ax
attribute [local simp] look_cons
section
variable {P : Program} {T : Nat → Option TI} {H H' : Heap} {μ μ' : Oid → Option Nat} {F F' : Fr} {st st' : St} {tm tm' : Nat → Value} {w w' : World}

/-- The same things under other names. -/
theorem Rel.rename (h : Rel H μ F st tm w) (g f : Oid → Option Oid) (e : Nat → Option Nat) (hF : F'.F = F.F) (hB : F'.B = F.B)
    (hfg : ∀ o u b, f o = some u → μ o = some b → g u = some o) (hginj : ∀ u u' o, g u = some o → g u' = some o → u = u')
    (hob : ∀ u, st'.ob u = match g u with | some o => (st.ob o).map (Ob.ren f) | none => none)
    (heinj : ∀ t t' s, e t = some s → e t' = some s → t = t')
    (henv : ∀ t, ∃ x v, st'.tm t = renV f x ∧ tm' t = v ∧ RepS H μ x v ∧ (x.isOwn = true → ∃ s, e t = some s ∧ st.tm s = x ∧ tm s = v))
    (hpar : ∀ j, st'.ob (.par j) ≠ none → (g (.par j)).bind μ = F'.G j) : Rel H (fun u => (g u).bind μ) F' st' tm' w := by
  have hf : ∀ o u b, f o = some u → μ o = some b → (fun u => (g u).bind μ) u = some b := by
    intro o u b h1 h2
    simp [hfg o u b h1 h2, h2]
  have hob1 : ∀ u x, st'.ob u = some x → ∃ o y, g u = some o ∧ st.ob o = some y ∧ x = y.ren f := by
    intro u x hx
    rw [hob] at hx
    cases hg : g u with
    | none => rw [hg] at hx; simp at hx
    | some o =>
      rw [hg] at hx
      simp only [Option.map_eq_some_iff] at hx
      obtain ⟨y, h1, h2⟩ := hx
      exact ⟨o, y, rfl, h1, h2.symm⟩
  have hlv : ∀ u b, live st' (fun u => (g u).bind μ) u = some b → ∃ o, g u = some o ∧ live st μ o = some b := by
    intro u b hb
    obtain ⟨h1, h2⟩ := live_some hb
    simp only [Option.bind_eq_some_iff] at h1
    obtain ⟨o, h3, h4⟩ := h1
    refine ⟨o, h3, live_of h4 fun e => h2 ?_⟩
    rw [hob, h3]
    simp [e, Ob.ren]
  have hat : ∀ ℓ sz xs b off n c, atL (fun u => (g u).bind μ) st' tm' w ℓ (.own sz xs) (.slice (some ⟨b, off, none⟩) n c) →
      ∃ ℓ', atL μ st tm w ℓ' (.own sz xs) (.slice (some ⟨b, off, none⟩) n c) ∧ ((∃ t s, ℓ = .t t ∧ ℓ' = .t s ∧ e t = some s) ∨ ∃ u o k, ℓ = .o u k ∧ ℓ' = .o o k ∧ g u = some o) := by
    intro ℓ sz xs b off n c hl
    cases ℓ with
    | t m =>
      obtain ⟨h1, h2⟩ := hl
      obtain ⟨x, v, k1, k2, k3, k4⟩ := henv m
      rw [k1, renV_own] at h1
      obtain ⟨s, k5, k6, k7⟩ := k4 (by rw [h1]; rfl)
      exact ⟨.t s, ⟨k6.trans h1, by rw [k7, ← k2, h2]⟩, .inl ⟨m, s, rfl, rfl, k5⟩⟩
    | o u k =>
      obtain ⟨row, cs, b', h1, h2, h3, h4⟩ := hl
      obtain ⟨o, y, k1, k2, k3⟩ := hob1 _ _ h1
      obtain ⟨cs0, e1, e2⟩ := ren_cells k3.symm
      simp only [k1, Option.bind_some] at h2
      exact ⟨.o o k, ⟨row, cs0, b', by rw [k2, e1], h2, (e2 k sz xs).1 h3, h4⟩, .inr ⟨u, o, k, rfl, rfl, k1⟩⟩
  refine ⟨fun t => ?_, h.heap, h.size, fun u hu => ?_, fun u x hx hax => ?_, fun u u' b h1 h2 => ?_, fun u b hb => ?_, fun u b hb => ?_, by rw [hF]; exact h.Flt, fun ℓ sz xs b off n c hl => ?_, ?_, hpar, by rw [hB]; exact h.base⟩
  · obtain ⟨x, v, k1, k2, k3, _⟩ := henv t
    rw [k1, k2]
    exact k3.ren hf
  · rw [hob] at hu
    cases hg : g u with
    | none => rfl
    | some o =>
      rw [hg] at hu
      simp only [Option.map_eq_none_iff] at hu
      exact h.dom o hu
  · obtain ⟨o, y, k1, k2, rfl⟩ := hob1 _ _ hx
    rw [ren_alive] at hax
    simp only [k1, Option.bind_some]
    rcases h.obs o y k2 hax with ⟨b, h1, h2⟩ | ⟨rfl, h2⟩
    · exact .inl ⟨b, h1, h2.ren hf⟩
    · exact .inr ⟨rfl, h2⟩
  · obtain ⟨o, k1, k2⟩ := hlv _ _ h1
    obtain ⟨o', k3, k4⟩ := hlv _ _ h2
    have := h.inj _ _ _ k2 k4
    subst this
    exact hginj _ _ _ k1 k3
  · obtain ⟨o, k1, k2⟩ := hlv _ _ hb
    exact h.objH _ _ k2
  · obtain ⟨o, k1, k2⟩ := hlv _ _ hb
    rw [hF]
    exact h.objF _ _ k2
  · obtain ⟨ℓ', hl', _⟩ := hat _ _ _ _ _ _ _ hl
    obtain ⟨g1, g2, g3, g4⟩ := h.own _ _ _ _ _ _ _ hl'
    refine ⟨g1, g2, fun u hu => ?_, by rw [hF]; exact g4⟩
    obtain ⟨o, k1, k2⟩ := hlv _ _ hu
    exact g3 _ k2
  · rintro ℓ ℓ' b ⟨sz1, xs1, off1, n1, c1, h1⟩ ⟨sz2, xs2, off2, n2, c2, h2⟩
    obtain ⟨q1, a1, a2⟩ := hat _ _ _ _ _ _ _ h1
    obtain ⟨q2, b1, b2⟩ := hat _ _ _ _ _ _ _ h2
    have := h.ownInj _ _ _ ⟨_, _, _, _, _, a1⟩ ⟨_, _, _, _, _, b1⟩
    subst this
    rcases a2 with ⟨t, s, rfl, rfl, e1⟩ | ⟨u, o, k, rfl, rfl, e1⟩ <;> rcases b2 with ⟨t', s', rfl, e2, e3⟩ | ⟨u', o', k', rfl, e2, e3⟩
    · injection e2 with e2
      subst e2
      rw [heinj _ _ _ e1 e3]
    · simp at e2
    · simp at e2
    · simp only [Loc.o.injEq] at e2
      obtain ⟨rfl, rfl⟩ := e2
      rw [hginj _ _ _ e1 e3]

theorem init_ob (mv : List Nat) (objs : List Ob) : ∀ (k : Nat) (u : Oid), lookO u ((parObsFrom k objs).map (innOb mv)) = match u with
    | .par j => if mv.contains j then none else if k ≤ j then (objs[j - k]?).map (Ob.ren (inn mv)) else none
    | .alt (.par j) => if mv.contains j then (if k ≤ j then (objs[j - k]?).map (Ob.ren (inn mv)) else none) else none
    | _ => none := by
  induction objs with
  | nil =>
    intro k u
    simp only [parObsFrom, List.map_nil, lookO]
    split <;> simp
  | cons x r ih =>
    intro k u
    simp only [parObsFrom, List.map_cons, lookO, innOb, inn, Option.getD_some, ih]
    by_cases hk : mv.contains k = true
    · rw [if_pos hk]
      have hk' : k ∈ mv := by simpa using hk
      by_cases hu : Oid.alt (.par k) = u
      · subst hu
        simp [hk']
      · rw [if_neg hu]
        split
        · rename_i j
          by_cases hj : mv.contains j = true
          · rw [if_pos hj, if_pos hj]
          · rw [if_neg hj, if_neg hj]
            have hkj : k ≠ j := by rintro rfl; exact hj hk
            by_cases h2 : k ≤ j
            · rw [if_pos (by omega), if_pos h2, show j - k = (j - (k + 1)) + 1 from by omega, List.getElem?_cons_succ]
            · rw [if_neg (by omega), if_neg h2]
        · rename_i j
          have hkj : k ≠ j := by rintro rfl; exact hu rfl
          by_cases hj : mv.contains j = true
          · rw [if_pos hj, if_pos hj]
            by_cases h2 : k ≤ j
            · rw [if_pos (by omega), if_pos h2, show j - k = (j - (k + 1)) + 1 from by omega, List.getElem?_cons_succ]
            · rw [if_neg (by omega), if_neg h2]
          · rw [if_neg hj, if_neg hj]
        · rfl
    · rw [if_neg hk]
      have hk' : k ∉ mv := by simpa using hk
      by_cases hu : Oid.par k = u
      · subst hu
        simp [hk']
      · rw [if_neg hu]
        split
        · rename_i j
          have hkj : k ≠ j := by rintro rfl; exact hu rfl
          by_cases hj : mv.contains j = true
          · rw [if_pos hj, if_pos hj]
          · rw [if_neg hj, if_neg hj]
            by_cases h2 : k ≤ j
            · rw [if_pos (by omega), if_pos h2, show j - k = (j - (k + 1)) + 1 from by omega, List.getElem?_cons_succ]
            · rw [if_neg (by omega), if_neg h2]
        · rename_i j
          by_cases hj : mv.contains j = true
          · have hkj : k ≠ j := by rintro rfl; exact hk hj
            rw [if_pos hj, if_pos hj]
            by_cases h2 : k ≤ j
            · rw [if_pos (by omega), if_pos h2, show j - k = (j - (k + 1)) + 1 from by omega, List.getElem?_cons_succ]
            · rw [if_neg (by omega), if_neg h2]
          · rw [if_neg hj, if_neg hj]
        · rfl
/-- The state that a body begins in. -/
theorem init_rel {args : List V} {objs : List Ob} {vs : List Value} {m : Nat} (hl : args.length = vs.length) (hr : Rel H μ F (conSt args objs []) (argTm vs) w) :
    ∃ μ0, Rel H μ0 ⟨F.F, fun j => if j < objs.length then F.G j else none, F.B⟩ (initSt args objs) (fun t => (vs.toArray ++ Array.replicate m undef).getD t undef) w ∧ ∀ j, j < objs.length → F.G j = μ (.par j) := by
  generalize hmv : mvOf args objs = mv
  have hG : ∀ j, j < objs.length → F.G j = μ (.par j) := by
    intro j hj
    exact (hr.par j (by rw [conSt_ob]; simp [hj])).symm
  refine ⟨_, hr.rename (F' := ⟨F.F, fun j => if j < objs.length then F.G j else none, F.B⟩) (fun u => match u with | .par j => if mv.contains j then none else some (.par j) | .alt (.par j) => if mv.contains j then some (.par j) else none | _ => none) (inn mv) some rfl rfl ?_ ?_ ?_ (fun t t' s h1 h2 => by
      injection h1 with h1; injection h2 with h2; rw [h1, h2]) ?_ ?_, hG⟩
  · intro o u b h1 h2
    cases o with
    | par j =>
      simp only [inn, Option.some.injEq] at h1
      split at h1
      · rename_i hc; subst h1; simp only [hc, if_true]
      · rename_i hc; subst h1; simp only [hc, if_false]; rfl
    | _ => simp [inn] at h1
  · intro u u' o h1 h2
    split at h1
    · split at h1
      · simp at h1
      · rename_i j hc
        injection h1 with h1
        subst h1
        split at h2
        · split at h2
          · simp at h2
          · injection h2 with h2; injection h2 with h2; subst h2; rfl
        · split at h2
          · rename_i hc2; injection h2 with h2; injection h2 with h2; subst h2; exact absurd hc2 hc
          · simp at h2
        · simp at h2
    · split at h1
      · rename_i j hc
        injection h1 with h1
        subst h1
        split at h2
        · split at h2
          · simp at h2
          · rename_i hc2; injection h2 with h2; injection h2 with h2; subst h2; exact absurd hc hc2
        · split at h2
          · injection h2 with h2; injection h2 with h2; subst h2; rfl
          · simp at h2
        · simp at h2
      · simp at h1
    · simp at h1
  · intro u
    simp only [initSt, St.ob, hmv, init_ob]
    split
    · rename_i j
      by_cases hc : mv.contains j = true
      · rw [if_pos hc, if_pos hc]
      · rw [if_neg hc, if_neg hc]
        have := conSt_ob args objs [] (.par j)
        simp only [St.ob] at this
        simp [this]
    · rename_i j
      by_cases hc : mv.contains j = true
      · rw [if_pos hc, if_pos hc]
        have := conSt_ob args objs [] (.par j)
        simp only [St.ob] at this
        simp [this]
      · rw [if_neg hc, if_neg hc]
    · rfl
  · intro t
    refine ⟨(conSt args objs []).tm t, argTm vs t, ?_, ?_, hr.env t, fun _ => ⟨t, rfl, rfl, rfl⟩⟩
    · rw [conSt_tm]
      simp only [initSt, St.tm, hmv, argsFrom_look, Nat.zero_le, if_true, Nat.sub_zero, List.getElem?_map]
      cases args[t]? <;> rfl
    · simp only [argTm]
      rw [Array.getD_eq_getD_getElem?, Array.getElem?_append]
      by_cases ht : t < vs.length
      · rw [if_pos (by simpa using ht)]
        simp
      · rw [if_neg (by simpa using ht), List.getElem?_eq_none (by omega)]
        simp only [Array.getElem?_replicate]
        split <;> rfl
  · intro j hj
    simp only [initSt, St.ob, hmv, init_ob] at hj
    by_cases hc : mv.contains j = true
    · rw [if_pos hc] at hj; simp at hj
    · rw [if_neg hc] at hj
      show (if mv.contains j = true then none else some (Oid.par j)).bind μ = (if j < objs.length then F.G j else none)
      rw [if_neg hc]
      simp only [Nat.zero_le, if_true, Nat.sub_zero] at hj
      have hjl : j < objs.length := by
        cases hq : objs[j]? with
        | none => rw [hq] at hj; simp at hj
        | some x => exact (List.getElem?_eq_some_iff.1 hq).1
      simp only [Option.bind_some, if_pos hjl]
      exact (hG j hjl).symm

def resRun (a : Act) : ResultVar → Sem Value
  | .tmp t => pure (a.tmps.getD t undef)
  | .cell b t => do loadVar t (← asAddr (a.tmps.getD b undef))
/-- One result. -/
theorem resV_run (hT : TabOk P T) {a : Act} (hr : Rel H μ F st (tmOf a) w) {x : ResultVar} {v : V} (h : resV T st x = some v) :
    ∃ u, (resRun a x).run P w = .ok u w ∧ RepS H μ v u ∧
      (v.isOwn = true → ∃ t, x = .tmp t ∧ st.tm t = v ∧ tmOf a t = u) := by
  cases x with
  | tmp t =>
    simp [resV] at h
    exact ⟨tmOf a t, rfl, h ▸ hr.env t, fun _ => ⟨t, rfl, h, rfl⟩⟩
  | cell b t =>
    simp only [resV] at h
    split at h
    · rename_i u off ti hb hti
      split at h
      · rename_i row cs hob
        have hti := hT _ _ hti
        cases hg : getS ti cs off with
        | none => rw [hg] at h; simp at h
        | some y =>
          rw [hg] at h
          simp at h
          subst h
          obtain ⟨bb, hbb, e⟩ := (hb ▸ hr.env b).ref
          obtain ⟨vs, ty, hblk, hrep, _⟩ := hr.cellsAt hob hbb
          obtain ⟨v, g1, g2, _⟩ := load_run (w := w) (P := P) (o0 := 0) hti hrep (fun j hj => by rw [cell?_of hblk, Nat.zero_add]; simp at hj; simp [List.getElem_take]) hg
          rw [Nat.zero_add] at g1
          refine ⟨v, ?_, (RepS.two _ _ g2).weak, fun h => by rw [weak_not_own] at h; simp at h⟩
          have e' : a.tmps.getD b undef = .pointer (some ⟨bb, off, none⟩) := e
          simp only [Instr.loadAt, Instr.sureAddr, Sem.run_bind, Sem.run_pure, Result.andThen_ok] at g1
          simp only [resRun, e', asAddr, Sem.run_bind, Sem.run_pure, Result.andThen_ok]
          exact g1
      · simp at h
    · simp at h
theorem weak_isTup {v : V} : v.weak.isTup = v.isTup := by cases v <;> rfl
theorem RepS.to2 {v : V} {u : Value} (h : RepS H μ v u) (ht : v.isTup = false) : Rep2 H μ v u := by
  cases h with
  | two _ _ h => exact h
  | tup => simp [V.isTup] at ht
theorem resL_run (hT : TabOk P T) {a : Act} (hr : Rel H μ F st (tmOf a) w) : ∀ (l : List ResultVar) {vs : List V}, resL T st l = some vs →
    ∃ us : List Value, (l.mapM (m := Sem) (resRun a)).run P w = .ok us w ∧ RepT H μ vs us ∧ us.length = l.length := by
  intro l
  induction l with
  | nil => intro vs h; simp [resL] at h; subst h; exact ⟨[], by simp, .nil, rfl⟩
  | cons x r ih =>
    intro vs h
    simp only [resL] at h
    split at h
    · rename_i v l hv hl
      split at h
      · simp at h
      · rename_i ht
        injection h with h
        subst h
        obtain ⟨u, h1, h2, _⟩ := resV_run (P := P) hT hr hv
        obtain ⟨us, g1, g2, g3⟩ := ih hl
        refine ⟨u :: us, ?_, .cons _ _ _ _ (h2.weak.to2 (by rw [weak_isTup]; simpa using ht)) g2, by simp [g3]⟩
        rw [List.mapM_cons]
        simp only [Sem.run_bind, Sem.run_pure, h1, Result.andThen_ok, g1]
    · simp at h

theorem parsOf_get {mv : List Nat} {f : Oid → Option Oid} : ∀ (n k : Nat) {l : List Ob}, parsOf mv f st k n = some l → l.length = n ∧ ∀ j (hj : j < l.length), ∃ x, st.ob (if mv.contains (k + j) then .alt (.par (k + j)) else .par (k + j)) = some x ∧ l[j] = x.ren f := by
  intro n
  induction n with
  | zero => intro k l h; simp [parsOf] at h; subst h; simp
  | succ n ih =>
    intro k l h
    simp only [parsOf] at h
    split at h
    · rename_i x l' hx hl
      injection h with h
      subst h
      obtain ⟨h1, h2⟩ := ih (k + 1) hl
      refine ⟨by simp [h1], fun j hj => ?_⟩
      cases j with
      | zero => exact ⟨x, by simpa using hx, rfl⟩
      | succ j =>
        obtain ⟨y, h3, h4⟩ := h2 j (by simpa using hj)
        exact ⟨y, by rw [show k + (j + 1) = k + 1 + j from by omega]; exact h3, by simpa using h4⟩
    · simp at h
theorem newsOf_get {f : Oid → Option Oid} : ∀ (nws : List Oid) {l : List Ob}, newsOf f st nws = some l → l.length = nws.length ∧ ∀ i (hi : i < l.length) (hi' : i < nws.length), ∃ x, st.ob nws[i] = some x ∧ l[i] = x.ren f := by
  intro nws
  induction nws with
  | nil => intro l h; simp [newsOf] at h; subst h; simp
  | cons o r ih =>
    intro l h
    simp only [newsOf] at h
    split at h
    · rename_i x l' hx hl
      injection h with h
      subst h
      obtain ⟨h1, h2⟩ := ih hl
      refine ⟨by simp [h1], fun i hi hi' => ?_⟩
      cases i with
      | zero => exact ⟨x, hx, rfl⟩
      | succ i => exact h2 i (by simpa using hi) (by simpa using hi')
    · simp at h

theorem results_eq (fn : Func) (tmps : Array Value) (D : List Deferred) : results fn tmps = (do let vs ← fn.results.mapM (resRun ⟨tmps, D⟩); pure (if h : vs.size = 1 then vs[0] else .tuple vs)) := by
  unfold results
  congr 2
/-- All results. -/
theorem resS_run (hT : TabOk P T) {a : Act} (hr : Rel H μ F st (tmOf a) w) {fn : Func} {v : V} (h : resS T st fn.results.toList = some v) :
    ∃ u, (results fn a.tmps).run P w = .ok u w ∧ RepS H μ v u ∧ (v.isOwn = true → ∃ t, st.tm t = v ∧ tmOf a t = u) := by
  rw [results_eq fn a.tmps a.defers, Array.mapM_eq_mapM_toList]
  simp only [bind_map_left, Sem.run_bind]
  unfold resS at h
  split at h
  · rename_i x hx
    obtain ⟨u, h1, h2, h3⟩ := resV_run (P := P) hT hr h
    refine ⟨u, ?_, h2, fun ho => by obtain ⟨t, _, h4, h5⟩ := h3 ho; exact ⟨t, h4, h5⟩⟩
    rw [hx]
    simp [h1]
  · rename_i hne
    cases hl : resL T st fn.results.toList with
    | none => rw [hl] at h; simp at h
    | some vs =>
      rw [hl] at h
      simp at h
      subst h
      obtain ⟨us, h1, h2, h3⟩ := resL_run (P := P) hT hr _ hl
      refine ⟨.tuple us.toArray, ?_, .tup _ _ h2, fun h => by simp [V.isOwn] at h⟩
      rw [h1]
      simp only [Result.andThen_ok, Sem.run_pure]
      have : us.toArray.size ≠ 1 := by
        simp only [List.size_toArray, h3]
        intro hl1
        match hq : fn.results.toList, hl1 with
        | [x], _ => exact hne x hq
      rw [dif_neg this]

/-- What a body is proved to do, as a contract. -/
theorem callOk_of {B : Heap} {f : FuncId} {fn : Func} {code : Code} (hT : TabOk P T) (hm : P.follows .mixedOrders = true) (hf : P.funcs[f]? = some fn) (hb : fn.body = some code)
    (henter : ∀ (as_ : Array Value) (w : World), (callFunc f as_).run P w = .ok (.enter f as_) w) (hint : Nat → Hint) {opt : Opt} {args : List V} {objs : List Ob} {r : V} {objs' news : List Ob} {nwl : List Oid}
    (hd : dstsOk fn.ntmps code = true) (hn : args.length ≤ fn.ntmps) (hlen : objs'.length = objs.length) (hnw : nwOk nwl = true)
    (h : awp ⟨CallOk P B, T, hint, opt⟩ code (initSt args objs) fun e st => (e = .ret ∨ e = .normal) ∧ (resS T st fn.results.toList).map (renV (outn objs.length (mvOf args objs) (nwl.take news.length))) = some r ∧
      parsOf (mvOf args objs) (outn objs.length (mvOf args objs) (nwl.take news.length)) st 0 objs.length = some objs' ∧ newsOf (outn objs.length (mvOf args objs) (nwl.take news.length)) st (nwl.take news.length) = some news) :
    CallOk P B f args objs r objs' news := by
  refine ⟨henter, hlen, fun H F w μ vs hFB hvs hr => ?_⟩
  subst hFB
  refine calls_of_wp hf hb ?_
  obtain ⟨μ0, hr0, hG⟩ := init_rel (m := fn.ntmps - vs.toArray.size) hvs hr
  have hat : AtS H μ0 ⟨F.F, fun j => if j < objs.length then F.G j else none, F.B⟩ (initSt args objs) { tmps := vs.toArray ++ Array.replicate (fn.ntmps - vs.toArray.size) undef, defers := [] } w fn.ntmps [] :=
    ⟨hr0, by simp; omega, rfl⟩
  refine awp_sound (F := ⟨F.F, fun j => if j < objs.length then F.G j else none, F.B⟩) ⟨CallOk P F.B, T, hint, opt⟩ rfl hT hm code hd h hat fun e st' a' w' H' μ' hq hat' hx => ?_
  generalize hmv : mvOf args objs = mv at *
  generalize hnws : nwl.take news.length = nws at *
  obtain ⟨hex, hres, hpar, hnews⟩ := hq
  have hnw2 : nws.Nodup ∧ ∀ o ∈ nws, ∀ j, o.root ≠ .par j := by
    simp only [nwOk, Bool.and_eq_true, decide_eq_true_eq, List.all_eq_true] at hnw
    rw [← hnws]
    refine ⟨hnw.1.sublist (List.take_sublist _ _), fun o ho j e => ?_⟩
    have := hnw.2 o (List.mem_of_mem_take ho)
    rw [e] at this
    simp at this
  cases hr0' : resS T st' fn.results.toList with
  | none => rw [hr0'] at hres; simp at hres
  | some r0 =>
  rw [hr0'] at hres
  simp at hres
  obtain ⟨u, h1, h2, h3⟩ := resS_run (P := P) hT hat'.rel hr0'
  obtain ⟨p1, p2⟩ := parsOf_get _ _ hpar
  obtain ⟨n1, n2⟩ := newsOf_get _ hnews
  have hpost : ∃ v H' μ' F', Ending.returned u = .returned v ∧ F'.F = F.F ∧ F'.B = F.B ∧ (∀ j, j < objs.length → j ∉ mv → μ' (.par j) = μ (.par j)) ∧
      Rel H' μ' F' (conSt [r] objs' news) (upd noTm 0 v) w' ∧ Ext F H w H' w' := by
    refine ⟨u, H', _, ⟨F.F, fun j => ((fun u => match u with | .par j => if j < objs.length then some (if mv.contains j then .alt (.par j) else .par j) else none | .sub 0 i => nws[i]? | _ => none : Oid → Option Oid) (.par j)).bind μ', F.B⟩, rfl, rfl, rfl, ?_,
      hat'.rel.rename (F' := ⟨F.F, fun j => ((fun u => match u with | .par j => if j < objs.length then some (if mv.contains j then .alt (.par j) else .par j) else none | .sub 0 i => nws[i]? | _ => none : Oid → Option Oid) (.par j)).bind μ', F.B⟩)
        (fun u => match u with | .par j => if j < objs.length then some (if mv.contains j then .alt (.par j) else .par j) else none | .sub 0 i => nws[i]? | _ => none) (outn objs.length mv nws)
        (fun t => if t = 0 ∧ r0.isOwn = true then some (Classical.epsilon fun s : Nat => st'.tm s = r0 ∧ tmOf a' s = u) else none) rfl rfl ?_ ?_ ?_ ?_ ?_ (fun _ _ => rfl), ⟨hx.io, hx.le, hx.size, hx.frm, hx.frH⟩⟩
    · intro j hj hjm
      have hc : ¬ mv.contains j = true := by simpa using hjm
      obtain ⟨x, hx1, _⟩ := p2 j (by omega)
      rw [Nat.zero_add, if_neg hc] at hx1
      have hp := hat'.rel.par j (by rw [hx1]; simp)
      show ((if j < objs.length then some (if mv.contains j = true then Oid.alt (.par j) else Oid.par j) else none).bind μ') = μ (.par j)
      rw [if_pos hj, if_neg hc, Option.bind_some, hp]
      show (if j < objs.length then F.G j else none) = _
      rw [if_pos hj, hG j hj]
    · intro o u' b k1 k2
      unfold outn at k1
      split at k1
      · rename_i j
        split at k1
        · simp at k1
        · rename_i hc
          split at k1
          · rename_i hj
            injection k1 with k1
            subst k1
            simp only [if_pos hj, if_neg hc]
          · simp at k1
      · rename_i j
        split at k1
        · rename_i hc
          split at k1
          · rename_i hj
            injection k1 with k1
            subst k1
            simp only [if_pos hj, if_pos hc]
          · simp at k1
        · simp at k1
      · cases hp : place o nws with
        | none => rw [hp] at k1; simp at k1
        | some i =>
          rw [hp] at k1
          simp at k1
          subst k1
          exact place_some hp
    · have hpr : ∀ (u : Oid) o, (match u with | .par j => if j < objs.length then some (if mv.contains j = true then Oid.alt (.par j) else Oid.par j) else none | .sub 0 i => nws[i]? | _ => none : Option Oid) = some o →
          (∃ j, u = .par j ∧ o.root = .par j) ∨ ∃ i, u = .sub 0 i ∧ nws[i]? = some o := by
        intro u o hu
        split at hu
        · rename_i j
          split at hu
          · injection hu with hu
            left
            refine ⟨j, rfl, ?_⟩
            rw [← hu]
            split <;> rfl
          · simp at hu
        · rename_i i
          exact .inr ⟨i, rfl, hu⟩
        · simp at hu
      intro u1 u2 o k1 k2
      rcases hpr _ _ k1 with ⟨j, rfl, k3⟩ | ⟨i, rfl, k3⟩ <;> rcases hpr _ _ k2 with ⟨j', rfl, k4⟩ | ⟨i', rfl, k4⟩
      · rw [k3] at k4
        injection k4 with k4
        rw [k4]
      · exact absurd k3 (hnw2.2 o (List.mem_of_getElem? k4) j)
      · exact absurd k4 (hnw2.2 o (List.mem_of_getElem? k3) j')
      · obtain ⟨l1, e1⟩ := List.getElem?_eq_some_iff.1 k3
        obtain ⟨l2, e2⟩ := List.getElem?_eq_some_iff.1 k4
        have := (List.getElem_inj hnw2.1).1 (e1.trans e2.symm)
        rw [this]
    · intro u1
      rw [conSt_ob]
      cases u1 with
      | par j =>
        dsimp only
        by_cases hj : j < objs.length
        · obtain ⟨x, hx1, hx2⟩ := p2 j (by omega)
          rw [Nat.zero_add] at hx1
          rw [if_pos hj]
          show _ = (st'.ob _).map _
          rw [hx1, List.getElem?_eq_getElem (by omega), hx2]
          rfl
        · rw [if_neg hj, List.getElem?_eq_none (by omega)]
      | sub t i =>
        cases t with
        | zero =>
          show news[i]? = match (nws[i]? : Option Oid) with | some o => (st'.ob o).map (Ob.ren (outn objs.length mv nws)) | none => none
          by_cases hi : i < news.length
          · obtain ⟨x, hx1, hx2⟩ := n2 i hi (by omega)
            rw [List.getElem?_eq_getElem (show i < nws.length by omega)]
            show _ = (st'.ob _).map _
            rw [hx1, List.getElem?_eq_getElem hi, hx2]
            rfl
          · rw [List.getElem?_eq_none (by omega), List.getElem?_eq_none (by omega)]
        | succ t => rfl
      | _ => rfl
    · intro t t' s k1 k2
      split at k1
      · rename_i e1
        split at k2
        · rename_i e2
          rw [e1.1, e2.1]
        · simp at k2
      · simp at k1
    · intro t
      by_cases ht : t = 0
      · subst ht
        refine ⟨r0, u, ?_, by simp [upd], h2, fun ho => ?_⟩
        · rw [conSt_tm]
          simp [hres]
        · have := Classical.epsilon_spec (h3 ho)
          exact ⟨_, by rw [if_pos ⟨rfl, ho⟩], this.1, this.2⟩
      · refine ⟨.any, noTm t, ?_, by simp [upd, ht], .two _ _ (.one _ _ (.any _)), by simp [V.isOwn]⟩
        rw [conSt_tm]
        cases t with
        | zero => exact absurd rfl ht
        | succ t => rfl
  rcases hex with rfl | rfl
  · exact ⟨hat'.defers, u, h1, hpost⟩
  · exact ⟨hat'.defers, u, h1, hpost⟩
end
end Go.Ax
