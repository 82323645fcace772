/- A part of the proof of a law of this seat: no condition. -/
import Derived.Test.YtcdoebbffjejeaaGreatDoorA5
import Derived.Orders
import Derived.Laws.CopyRow
import Derived.LoopN
set_option linter.unusedVariables false
set_option linter.unusedSimpArgs false
namespace Go.Ax
attribute [local simp] look_cons

/-- Two states that nobody can tell apart. -/
def Alike (a b : St) : Prop := (∀ t, a.tm t = b.tm t) ∧ ∀ o, a.ob o = b.ob o
def agree (l : List Wh) (a b : St) : Prop := (∀ t, Wh.t t ∈ l → a.tm t = b.tm t) ∧ ∀ o, Wh.o o ∈ l → a.ob o = b.ob o
theorem Alike.refl (a : St) : Alike a a := ⟨fun _ => rfl, fun _ => rfl⟩
theorem Alike.symm {a b : St} (h : Alike a b) : Alike b a := ⟨fun t => (h.1 t).symm, fun o => (h.2 o).symm⟩
theorem Alike.trans {a b c : St} (h : Alike a b) (h' : Alike b c) : Alike a c := ⟨fun t => (h.1 t).trans (h'.1 t), fun o => (h.2 o).trans (h'.2 o)⟩
theorem Alike.agree {a b : St} (h : Alike a b) (l : List Wh) : agree l a b := ⟨fun t _ => h.1 t, fun o _ => h.2 o⟩

section
variable {α : Type} {st st' st1 st2 : St}
theorem run_agree (x : Rd α) (h : agree (x.reads st) st st') : x.run st' = x.run st ∧ x.reads st' = x.reads st := by
  induction x with
  | ret a => exact ⟨rfl, rfl⟩
  | fail => exact ⟨rfl, rfl⟩
  | tm t k ih =>
    have ht : st.tm t = st'.tm t := h.1 t (by simp [Rd.reads])
    have := ih (st.tm t) ⟨fun u hu => h.1 u (by simp [Rd.reads, hu]), fun o ho => h.2 o (by simp [Rd.reads, ho])⟩
    simp only [Rd.run, Rd.reads, ← ht]
    exact ⟨this.1, by rw [this.2]⟩
  | ob o k ih =>
    have ht : st.ob o = st'.ob o := h.2 o (by simp [Rd.reads])
    have := ih (st.ob o) ⟨fun u hu => h.1 u (by simp [Rd.reads, hu]), fun o ho => h.2 o (by simp [Rd.reads, ho])⟩
    simp only [Rd.run, Rd.reads, ← ht]
    exact ⟨this.1, by rw [this.2]⟩
theorem app_tm_ne (l : List Wr) : ∀ (st : St) (t : Nat), Wh.t t ∉ l.map Wr.wh → (st.app l).tm t = st.tm t := by
  induction l with
  | nil => intro st t _; rfl
  | cons x l ih =>
    intro st t h
    simp at h
    cases x with
    | t u v =>
      simp only [St.app]
      rw [ih _ _ (by simpa using h.2), St.tm_put]
      have : u ≠ t := fun e => h.1 (by simp [Wr.wh, e])
      simp [this]
    | o u c =>
      simp only [St.app]
      rw [ih _ _ (by simpa using h.2)]
      rfl
theorem app_ob_ne (l : List Wr) : ∀ (st : St) (o : Oid), Wh.o o ∉ l.map Wr.wh → (st.app l).ob o = st.ob o := by
  induction l with
  | nil => intro st o _; rfl
  | cons x l ih =>
    intro st o h
    simp at h
    cases x with
    | t u v =>
      simp only [St.app]
      rw [ih _ _ (by simpa using h.2)]
      rfl
    | o u c =>
      simp only [St.app]
      rw [ih _ _ (by simpa using h.2), St.ob_putO]
      have : u ≠ o := fun e => h.1 (by simp [Wr.wh, e])
      simp [this]
/-- Writes onto states that are alike here stay alike here. -/
theorem app_tm_same (l : List Wr) : ∀ (a b : St) (t : Nat), (Wh.t t ∈ l.map Wr.wh ∨ a.tm t = b.tm t) → (a.app l).tm t = (b.app l).tm t := by
  induction l with
  | nil => intro a b t h; simpa [St.app] using h
  | cons x l ih =>
    intro a b t h
    rw [List.map_cons, List.mem_cons] at h
    cases x with
    | t u v =>
      simp only [St.app]
      refine ih _ _ _ ?_
      by_cases e : u = t
      · right; simp [St.tm_put, e]
      · rcases h with (h | h) | h
        · simp only [Wr.wh, Wh.t.injEq] at h; exact absurd h.symm e
        · left; exact h
        · right; simp [St.tm_put, e, h]
    | o u c =>
      simp only [St.app]
      refine ih _ _ _ ?_
      rcases h with (h | h) | h
      · simp [Wr.wh] at h
      · left; exact h
      · right; exact h
theorem app_ob_same (l : List Wr) : ∀ (a b : St) (o : Oid), (Wh.o o ∈ l.map Wr.wh ∨ a.ob o = b.ob o) → (a.app l).ob o = (b.app l).ob o := by
  induction l with
  | nil => intro a b o h; simpa [St.app] using h
  | cons x l ih =>
    intro a b o h
    rw [List.map_cons, List.mem_cons] at h
    cases x with
    | t u v =>
      simp only [St.app]
      refine ih _ _ _ ?_
      rcases h with (h | h) | h
      · simp [Wr.wh] at h
      · left; exact h
      · right; exact h
    | o u c =>
      simp only [St.app]
      refine ih _ _ _ ?_
      by_cases e : u = o
      · right; simp [St.ob_putO, e]
      · rcases h with (h | h) | h
        · simp only [Wr.wh, Wh.o.injEq] at h; exact absurd h.symm e
        · left; exact h
        · right; simp [St.ob_putO, e, h]
theorem Alike.app {a b : St} (h : Alike a b) (l : List Wr) : Alike (a.app l) (b.app l) :=
  ⟨fun t => app_tm_same l a b t (.inr (h.1 t)), fun o => app_ob_same l a b o (.inr (h.2 o))⟩
theorem meets_false {a b : List Wh} (h : meets a b = false) : ∀ x ∈ a, x ∉ b := by
  intro x hx hb
  simp only [meets, List.any_eq_false] at h
  have := h x hx
  simp at this
  exact this hb
theorem app_agree {l : List Wr} {r : List Wh} (h : ∀ x ∈ l.map Wr.wh, x ∉ r) (st : St) : agree r (st.app l) st :=
  ⟨fun t ht => app_tm_ne l st t (fun hx => h _ hx ht), fun o ho => app_ob_ne l st o (fun hx => h _ hx ho)⟩
theorem app_comm {l m : List Wr} (h : ∀ x ∈ l.map Wr.wh, x ∉ m.map Wr.wh) (st : St) : Alike ((st.app l).app m) ((st.app m).app l) := by
  constructor
  · intro t
    by_cases h1 : Wh.t t ∈ m.map Wr.wh
    · rw [app_tm_ne l (st.app m) t (fun hx => h _ hx h1)]
      exact app_tm_same m _ _ t (.inl h1)
    · rw [app_tm_ne m _ t h1]
      exact app_tm_same l _ _ t (.inr (app_tm_ne m st t h1).symm)
  · intro o
    by_cases h1 : Wh.o o ∈ m.map Wr.wh
    · rw [app_ob_ne l (st.app m) o (fun hx => h _ hx h1)]
      exact app_ob_same m _ _ o (.inl h1)
    · rw [app_ob_ne m _ o h1]
      exact app_ob_same l _ _ o (.inr (app_ob_ne m st o h1).symm)
end

/-- One operation: what it writes. -/
def stepW (C : Orc) (T : Nat → Option TI) (M : Mode) (ops : List Oper) (o : Oper) (st : St) (ws : List Wr) : Prop :=
  match (wanted ops o).run st with
  | some (some true) => match (opF T M o).run st with
    | some (.ws l) => ws = l
    | some (.call f args objs nw w) => ∃ r objs' news, C f args objs (one r objs' news) ∧ news.length ≤ nw ∧ ws = back w r objs' news
    | some (.alts _) => False
    | none => False
  | some (some false) => ws = out o.dst (.tup [])
  | _ => False
def stepR (T : Nat → Option TI) (M : Mode) (ops : List Oper) (o : Oper) (st : St) : List Wh :=
  match (wanted ops o).run st with
  | some (some true) => (wanted ops o).reads st ++ (opF T M o).reads st
  | _ => (wanted ops o).reads st

section
variable {C : Orc} {T : Nat → Option TI} {M : Mode} {ops : List Oper}
theorem step_agree {o : Oper} {st st' : St} (h : agree (stepR T M ops o st) st st') (ws : List Wr) :
    (stepW C T M ops o st' ws ↔ stepW C T M ops o st ws) ∧ stepR T M ops o st' = stepR T M ops o st := by
  have h1 : agree ((wanted ops o).reads st) st st' := by
    unfold stepR at h
    split at h
    · exact ⟨fun t ht => h.1 t (by simp [ht]), fun u hu => h.2 u (by simp [hu])⟩
    · exact h
  obtain ⟨a1, a2⟩ := run_agree _ h1
  unfold stepW stepR
  rw [a1, a2]
  split
  · rename_i hw
    have h2 : agree ((opF T M o).reads st) st st' := by
      unfold stepR at h
      rw [hw] at h
      exact ⟨fun t ht => h.1 t (by simp [ht]), fun u hu => h.2 u (by simp [hu])⟩
    obtain ⟨b1, b2⟩ := run_agree _ h2
    rw [b1, b2]
    exact ⟨Iff.rfl, rfl⟩
  · rename_i hw
    rw [hw]
    exact ⟨Iff.rfl, rfl⟩
  · rename_i h0 h1'
    refine ⟨Iff.rfl, ?_⟩
    split
    · rename_i hw; exact absurd hw (by simpa using h0)
    · rfl

/-- Operations by their places; R tells what each writes and where it looks. -/
def RunL (C : Orc) (T : Nat → Option TI) (M : Mode) (ops : List Oper) (R : Nat → List Wr × List Wh) : List Nat → St → St → Prop
  | [], st, st' => Alike st st'
  | i :: L, st, st' => ∃ o, ops[i]? = some o ∧ stepW C T M ops o st (R i).1 ∧ stepR T M ops o st = (R i).2 ∧ RunL C T M ops R L (st.app (R i).1) st'

variable {R : Nat → List Wr × List Wh}
theorem RunL.congr : ∀ (L : List Nat) {a b st' : St}, Alike a b → RunL C T M ops R L a st' → RunL C T M ops R L b st' := by
  intro L
  induction L with
  | nil => intro a b st' h hr; exact h.symm.trans hr
  | cons i L ih =>
    rintro a b st' h ⟨o, h1, h2, h3, h4⟩
    obtain ⟨g1, g2⟩ := step_agree (C := C) (T := T) (M := M) (ops := ops) (o := o) (h.agree _) (R i).1
    exact ⟨o, h1, g1.2 h2, g2.trans h3, ih (h.app _) h4⟩
def foot (R : Nat → List Wr × List Wh) (i : Nat) : Foot := ⟨(R i).2, (R i).1.map Wr.wh⟩
theorem RunL.swap {i j : Nat} {L : List Nat} {st st' : St} (hn : (foot R i).clash (foot R j) = false) (h : RunL C T M ops R (i :: j :: L) st st') : RunL C T M ops R (j :: i :: L) st st' := by
  obtain ⟨o, h1, h2, h3, o', k1, k2, k3, k4⟩ := h
  simp only [Foot.clash, foot, Bool.or_eq_false_iff] at hn
  obtain ⟨⟨n1, n2⟩, n3⟩ := hn
  have m1 := meets_false n1
  have m2 := meets_false n2
  have m3 := meets_false n3
  -- j at st
  have aj : agree (stepR T M ops o' (st.app (R i).1)) (st.app (R i).1) st := by rw [k3]; exact app_agree m1 st
  obtain ⟨g1, g2⟩ := step_agree (C := C) (T := T) (M := M) (ops := ops) (o := o') aj (R j).1
  -- i behind j
  have ai : agree (stepR T M ops o st) st (st.app (R j).1) := by
    rw [h3]
    have := app_agree (l := (R j).1) (r := (R i).2) m3 st
    exact ⟨fun t ht => (this.1 t ht).symm, fun u hu => (this.2 u hu).symm⟩
  obtain ⟨f1, f2⟩ := step_agree (C := C) (T := T) (M := M) (ops := ops) (o := o) ai (R i).1
  exact ⟨o', k1, g1.2 k2, g2.trans k3, o, h1, f1.2 h2, f2.trans h3, RunL.congr L (app_comm m2 st) k4⟩
/-- What a load writes. -/
def ldWr (T : Nat → Option TI) (M : Mode) (t : Nat) (dst : Option Nat) (a : V) (ob : Oid → Option Ob) : Option (List Wr) :=
  match T t with
  | none => none
  | some ti => match a with
    | .eptr cs off => (getS ti cs off).map fun v => out dst v.weak
    | .ref u off => match ob u with
      | some (.cells row cs) => match getS ti cs off with
        | some v => if (dst.map M.steal).getD false && v.isOwn then some (.o u (.cells row (cs.set off v.weak)) :: out dst v) else some (out dst v.weak)
        | none => none
      | _ => none
    | _ => none
def ldVal (x : Operand) (st : St) : Option V :=
  match x with
  | .tmp t => some (st.tm t)
  | .const v => some (ofConst v)
  | .func f => some (.fn f)
  | .global _ => none
def ldRd (T : Nat → Option TI) (t : Nat) (x : Operand) (st : St) : List Wh :=
  match T t with
  | none => []
  | some _ => (match x with | .tmp t => [Wh.t t] | _ => []) ++ (match ldVal x st with | some (.ref u _) => [Wh.o u] | _ => [])
theorem ld_step (hM : M.fu = none) {o : Oper} {t : Nat} {x : Operand} (ho : o.op = .load t x) (hg : o.guard = none) (st : St) (ws : List Wr) :
    (stepW C T M ops o st ws ↔ ((ldVal x st).bind fun a => ldWr T M t o.dst a st.ob) = some ws) ∧ stepR T M ops o st = ldRd T t x st := by
  obtain ⟨dst, op, type, pos, after, guard⟩ := o
  simp only at ho hg
  subst ho; subst hg
  simp only [stepW, stepR, wanted, Rd.run, Rd.reads, List.nil_append, opF_none hM, opN, opS, ldWr, ldRd]
  cases hT : T t with
  | none =>
    refine ⟨?_, rfl⟩
    cases ldVal x st <;> simp [rOpt, bind, Rd.bind, Rd.run]
  | some ti =>
    have key : ∀ (a : V) (pre : List Wh), (match (Rd.bind (match a with
          | .eptr cs off => do
            let v ← rOpt (getS ti cs off)
            pure (Ws.ws (out dst v.weak))
          | .ref u off => do
            .ob u fun
            | some (.cells row cs) => do
              let v ← rOpt (getS ti cs off)
              if (dst.map M.steal).getD false && v.isOwn then pure (Ws.ws (.o u (.cells row (cs.set off v.weak)) :: out dst v)) else pure (Ws.ws (out dst v.weak))
            | _ => .fail
          | _ => .fail) fun x => match x with | .ws l => (.ret (Res.ws l) : Rd Res)).run st with
        | some (.ws l) => ws = l
        | some (.call f args objs nw w) => ∃ r objs' news, C f args objs (one r objs' news) ∧ news.length ≤ nw ∧ ws = back w r objs' news
        | some (.alts _) => False
        | none => False) ↔ (match a with
            | .eptr cs off => (getS ti cs off).map fun v => out dst v.weak
            | .ref u off => match st.ob u with
              | some (.cells row cs) => match getS ti cs off with
                | some v => if (dst.map M.steal).getD false && v.isOwn then some (.o u (.cells row (cs.set off v.weak)) :: out dst v) else some (out dst v.weak)
                | none => none
              | _ => none
            | _ => none) = some ws := by
      intro a pre
      cases a <;> try (simp [Rd.bind, Rd.run]; done)
      case ref u off =>
        simp only [Rd.bind, Rd.run, bind]
        cases hu : st.ob u with
        | none => simp [Rd.bind, Rd.run]
        | some y => cases y with
          | cells row cs =>
            simp only
            cases hv : getS ti cs off with
            | none => simp [rOpt, Rd.bind, Rd.run]
            | some v =>
              simp only [rOpt, Rd.bind]
              by_cases hc : ((dst.map M.steal).getD false && v.isOwn) = true
              · simp only [if_pos hc, pure, Rd.bind, Rd.run]
                exact ⟨fun h => by rw [h], fun h => by injection h with h; exact h.symm⟩
              · simp only [if_neg hc, pure, Rd.bind, Rd.run]
                exact ⟨fun h => by rw [h], fun h => by injection h with h; exact h.symm⟩
          | _ => simp [Rd.bind, Rd.run]
      case eptr cs off =>
        simp only [bind]
        cases hv : getS ti cs off with
        | none => simp [rOpt, Rd.bind, Rd.run]
        | some v =>
          simp only [rOpt, pure, Rd.bind, Rd.run, Option.map_some]
          exact ⟨fun h => by rw [h], fun h => by injection h with h; exact h.symm⟩
    have key2 : ∀ (a : V), (Rd.bind (match a with
          | .eptr cs off => do
            let v ← rOpt (getS ti cs off)
            pure (Ws.ws (out dst v.weak))
          | .ref u off => do
            .ob u fun
            | some (.cells row cs) => do
              let v ← rOpt (getS ti cs off)
              if (dst.map M.steal).getD false && v.isOwn then pure (Ws.ws (.o u (.cells row (cs.set off v.weak)) :: out dst v)) else pure (Ws.ws (out dst v.weak))
            | _ => .fail
          | _ => .fail) fun x => match x with | .ws l => (.ret (Res.ws l) : Rd Res)).reads st = (match (some a) with | some (.ref u _) => [Wh.o u] | _ => []) := by
      intro a
      cases a <;> try (simp [Rd.bind, Rd.reads]; done)
      case ref u off =>
        simp only [Rd.bind, Rd.reads, bind]
        cases hu : st.ob u with
        | none => simp [Rd.bind, Rd.reads]
        | some y => cases y with
          | cells row cs =>
            simp only
            cases hv : getS ti cs off with
            | none => simp [rOpt, Rd.bind, Rd.reads]
            | some v =>
              simp only [rOpt, Rd.bind]
              by_cases hc : ((dst.map M.steal).getD false && v.isOwn) = true
              · simp only [if_pos hc, pure, Rd.bind, Rd.reads]
              · simp only [if_neg hc, pure, Rd.bind, Rd.reads]
          | _ => simp [Rd.bind, Rd.reads]
      case eptr cs off =>
        simp only [bind]
        cases hv : getS ti cs off with
        | none => simp [rOpt, Rd.bind, Rd.reads]
        | some v => simp only [rOpt, pure, Rd.bind, Rd.reads]
    cases x with
    | tmp t => exact ⟨key (st.tm t) [], congrArg (List.cons (Wh.t t)) (key2 (st.tm t))⟩
    | const v => exact ⟨key (ofConst v) [], key2 (ofConst v)⟩
    | func f => exact ⟨key (.fn f) [], key2 (.fn f)⟩
    | global g => exact ⟨by simp [ldVal, ev, rOpt, bind, Rd.bind, Rd.run], rfl⟩
theorem getS_weak {ti : TI} {cs : List V} {k : Nat} {x : V} (hk : cs[k]? = some x) (hx : x.isOwn = true) (off : Nat) : (getS ti (cs.set k x.weak) off).map V.weak = (getS ti cs off).map V.weak := by
  have hw1 : x.weak.weak1 = x.weak1 := by cases x <;> simp_all [V.isOwn, V.weak, V.weak1]
  have hw : x.weak.weak = x.weak := by cases x <;> simp_all [V.isOwn, V.weak, V.weak1]
  have hkl : k < cs.length := (List.getElem?_eq_some_iff.1 hk).1
  unfold getS
  by_cases ha : ti.isAgg = true
  · simp only [if_pos ha, List.length_set]
    by_cases hl : off + ti.size ≤ cs.length
    · simp only [if_pos hl, Option.map_some]
      show some (V.agg (List.map V.weak1 (((cs.set k x.weak).drop off).take ti.size))) = some (V.agg (List.map V.weak1 ((cs.drop off).take ti.size)))
      congr 2
      rw [List.map_take, List.map_drop, List.map_take, List.map_drop]
      congr 2
      rw [List.map_set, hw1]
      apply List.ext_getElem?
      intro i
      rw [List.getElem?_set]
      split
      · rename_i e; subst e
        have hx2 : cs[k] = x := (List.getElem?_eq_some_iff.1 hk).2
        simp [hkl, hx2]
      · rfl
    · simp only [if_neg hl]
  · simp only [if_neg ha, List.getElem?_set]
    by_cases e : k = off
    · subst e
      have hx2 : cs[k] = x := (List.getElem?_eq_some_iff.1 hk).2
      simp [hkl, hw, hx2]
    · simp [e]
/-- What a look into a map tells. -/
def lkAt (T : Nat → Option TI) (t x k : Nat) (st : St) (ti : TI) (kd : Nat) (z : V) (u : Oid) (b : Nat) (l : List (V × V)) (r : Option (Nat × V)) : Prop :=
  T t = some ti ∧ ti.kv = some (kd, z) ∧ st.tm x = .mp u ∧ st.ob u = some (.map b l) ∧ (∃ q, eqKey kd (st.tm k) (st.tm k) = some q) ∧ findS kd (st.tm k) l 0 = some r
theorem lk_step (hM : M.fu = none) {o : Oper} {t x k : Nat} (ho : o.op = .lookup t (.tmp x) (.tmp k) false) (hg : o.guard = none) (st : St) (ws : List Wr) :
    (stepW C T M ops o st ws ↔ ∃ ti kd z u b l r, lkAt T t x k st ti kd z u b l r ∧ ws = out o.dst (valOf z.weak r)) ∧
    ((∃ ti kd z u b l r, lkAt T t x k st ti kd z u b l r ∧ (stepR T M ops o st = [.t x, .t k, .o u])) ∨ ¬ ∃ ti kd z u b l r, lkAt T t x k st ti kd z u b l r) := by
  obtain ⟨dst, op, type, pos, after, guard⟩ := o
  simp only at ho hg
  subst ho; subst hg
  have fwd : ∀ ti kd z u b l r, lkAt T t x k st ti kd z u b l r → (opF T M (⟨dst, .lookup t (.tmp x) (.tmp k) false, type, pos, after, none⟩ : Oper)).run st = some (.ws (out dst (valOf z.weak r))) ∧
      (opF T M (⟨dst, .lookup t (.tmp x) (.tmp k) false, type, pos, after, none⟩ : Oper)).reads st = [.t x, .t k, .o u] := by
    rintro ti kd z u b l r ⟨h1, h2, h3, h4, ⟨q, h5⟩, h6⟩
    constructor
    · simp [opF_none hM, opN, opS, ev, rOpt, bind, Rd.bind, Rd.run, pure, h1, h2, h3, h4, h5, h6]
    · simp [opF_none hM, opN, opS, ev, rOpt, bind, Rd.bind, Rd.reads, pure, h1, h2, h3, h4, h5, h6]
  have bwd : ∀ res, (opF T M (⟨dst, .lookup t (.tmp x) (.tmp k) false, type, pos, after, none⟩ : Oper)).run st = some res → ∃ ti kd z u b l r, lkAt T t x k st ti kd z u b l r := by
    intro res h
    simp only [opF_none hM, opN] at h
    obtain ⟨⟨lw⟩, h, _⟩ := rd_bind _ _ _ h
    unfold opS at h
    simp only at h
    replace h := rd_bind _ _ _ h
    obtain ⟨ti, hti, h⟩ := h
    have hti := rd_rOpt hti
    replace h := rd_bind _ _ _ h
    obtain ⟨vm, hm, h⟩ := h
    replace h := rd_bind _ _ _ h
    obtain ⟨vk, hk, h⟩ := h
    replace h := rd_bind _ _ _ h
    obtain ⟨⟨kd, z⟩, hkv, h⟩ := h
    have hkv := rd_rOpt hkv
    simp only [ev, Rd.run, Option.some.injEq] at hm hk
    dsimp only at h
    split at h
    · rename_i u
      simp only [Rd.run] at h
      split at h
      · rename_i b l hob
        replace h := rd_bind _ _ _ h
        obtain ⟨b0, hb0, h⟩ := h
        replace h := rd_bind _ _ _ h
        obtain ⟨r, hf, h⟩ := h
        have hb0 := rd_rOpt hb0
        have hf := rd_rOpt hf
        subst hk
        exact ⟨ti, kd, z, u, b, l, r, hti, hkv, hm, hob, ⟨b0, hb0⟩, hf⟩
      · simp [Rd.run] at h
    · simp [Rd.run] at h
  have hw : wanted ops (⟨dst, .lookup t (.tmp x) (.tmp k) false, type, pos, after, none⟩ : Oper) = .ret (some true) := rfl
  constructor
  · unfold stepW
    rw [hw]
    simp only [Rd.run]
    constructor
    · intro h
      cases hr : (opF T M (⟨dst, .lookup t (.tmp x) (.tmp k) false, type, pos, after, none⟩ : Oper)).run st with
      | none => rw [hr] at h; exact h.elim
      | some res =>
        obtain ⟨ti, kd, z, u, b, l, r, hl⟩ := bwd res hr
        rw [(fwd _ _ _ _ _ _ _ hl).1] at h
        exact ⟨ti, kd, z, u, b, l, r, hl, h⟩
    · rintro ⟨ti, kd, z, u, b, l, r, hl, rfl⟩
      rw [(fwd _ _ _ _ _ _ _ hl).1]
  · by_cases he : ∃ ti kd z u b l r, lkAt T t x k st ti kd z u b l r
    · left
      obtain ⟨ti, kd, z, u, b, l, r, hl⟩ := he
      refine ⟨ti, kd, z, u, b, l, r, hl, ?_⟩
      unfold stepR
      rw [hw]
      simp only [Rd.run, Rd.reads, List.nil_append]
      exact (fwd _ _ _ _ _ _ _ hl).2
    · exact .inr he
theorem me_step (hM : M.fu = none) {o : Oper} {t x k : Nat} (ho : o.op = .mapEntry t (.tmp x) (.tmp k)) (hg : o.guard = none) (st : St) (ws : List Wr) :
    (stepW C T M ops o st ws ↔ ∃ ti kd z u b l r, lkAt T t x k st ti kd z u b l r ∧ ws = .o u (.map b (putS l (st.tm k) (valOf z.weak r) r)) :: out o.dst (.tup [valOf z.weak r, .int .i64 ((b + idxOf l.length r : Nat) : Int)])) ∧
    ((∃ ti kd z u b l r, lkAt T t x k st ti kd z u b l r ∧ (stepR T M ops o st = [.t x, .t k, .o u])) ∨ ¬ ∃ ti kd z u b l r, lkAt T t x k st ti kd z u b l r) := by
  obtain ⟨dst, op, type, pos, after, guard⟩ := o
  simp only at ho hg
  subst ho; subst hg
  have fwd : ∀ ti kd z u b l r, lkAt T t x k st ti kd z u b l r → (opF T M (⟨dst, .mapEntry t (.tmp x) (.tmp k), type, pos, after, none⟩ : Oper)).run st = some (.ws (.o u (.map b (putS l (st.tm k) (valOf z.weak r) r)) :: out dst (.tup [valOf z.weak r, .int .i64 ((b + idxOf l.length r : Nat) : Int)]))) ∧
      (opF T M (⟨dst, .mapEntry t (.tmp x) (.tmp k), type, pos, after, none⟩ : Oper)).reads st = [.t x, .t k, .o u] := by
    rintro ti kd z u b l r ⟨h1, h2, h3, h4, ⟨q, h5⟩, h6⟩
    constructor
    · simp [opF_none hM, opN, opS, ev, rOpt, bind, Rd.bind, Rd.run, pure, h1, h2, h3, h4, h5, h6]
    · simp [opF_none hM, opN, opS, ev, rOpt, bind, Rd.bind, Rd.reads, pure, h1, h2, h3, h4, h5, h6]
  have bwd : ∀ res, (opF T M (⟨dst, .mapEntry t (.tmp x) (.tmp k), type, pos, after, none⟩ : Oper)).run st = some res → ∃ ti kd z u b l r, lkAt T t x k st ti kd z u b l r := by
    intro res h
    simp only [opF_none hM, opN] at h
    obtain ⟨⟨lw⟩, h, _⟩ := rd_bind _ _ _ h
    unfold opS at h
    simp only at h
    replace h := rd_bind _ _ _ h
    obtain ⟨ti, hti, h⟩ := h
    have hti := rd_rOpt hti
    replace h := rd_bind _ _ _ h
    obtain ⟨vm, hm, h⟩ := h
    replace h := rd_bind _ _ _ h
    obtain ⟨vk, hk, h⟩ := h
    replace h := rd_bind _ _ _ h
    obtain ⟨⟨kd, z⟩, hkv, h⟩ := h
    have hkv := rd_rOpt hkv
    simp only [ev, Rd.run, Option.some.injEq] at hm hk
    dsimp only at h
    split at h
    · rename_i u
      simp only [Rd.run] at h
      split at h
      · rename_i b l hob
        replace h := rd_bind _ _ _ h
        obtain ⟨b0, hb0, h⟩ := h
        replace h := rd_bind _ _ _ h
        obtain ⟨r, hf, h⟩ := h
        have hb0 := rd_rOpt hb0
        have hf := rd_rOpt hf
        subst hk
        exact ⟨ti, kd, z, u, b, l, r, hti, hkv, hm, hob, ⟨b0, hb0⟩, hf⟩
      · simp [Rd.run] at h
    · simp [Rd.run] at h
  have hw : wanted ops (⟨dst, .mapEntry t (.tmp x) (.tmp k), type, pos, after, none⟩ : Oper) = .ret (some true) := rfl
  constructor
  · unfold stepW
    rw [hw]
    simp only [Rd.run]
    constructor
    · intro h
      cases hr : (opF T M (⟨dst, .mapEntry t (.tmp x) (.tmp k), type, pos, after, none⟩ : Oper)).run st with
      | none => rw [hr] at h; exact h.elim
      | some res =>
        obtain ⟨ti, kd, z, u, b, l, r, hl⟩ := bwd res hr
        rw [(fwd _ _ _ _ _ _ _ hl).1] at h
        exact ⟨ti, kd, z, u, b, l, r, hl, h⟩
    · rintro ⟨ti, kd, z, u, b, l, r, hl, rfl⟩
      rw [(fwd _ _ _ _ _ _ _ hl).1]
  · by_cases he : ∃ ti kd z u b l r, lkAt T t x k st ti kd z u b l r
    · left
      obtain ⟨ti, kd, z, u, b, l, r, hl⟩ := he
      refine ⟨ti, kd, z, u, b, l, r, hl, ?_⟩
      unfold stepR
      rw [hw]
      simp only [Rd.run, Rd.reads, List.nil_append]
      exact (fwd _ _ _ _ _ _ _ hl).2
    · exact .inr he
theorem eqKey_true {kd : Nat} {K : V} {q : Bool} (h : eqKey kd K K = some q) : q = true := by
  unfold eqKey at h
  split at h <;> simp_all
theorem find_put0 {kd : Nat} {K w : V} : ∀ {l : List (V × V)} {i : Nat}, findS kd K l i = some none → eqKey kd K K = some true → findS kd K (l ++ [(K, w)]) i = some (some (i + l.length, w))
  | [], i, _, h => by simp only [List.nil_append, findS, h]; rfl
  | e :: l, i, h, hk => by
    simp only [findS] at h
    split at h
    · simp at h
    · rename_i he
      simp only [List.cons_append, findS, he]
      rw [find_put0 h hk]
      simp only [List.length_cons]
      congr 3
      omega
    · simp at h
theorem find_put1 {kd : Nat} {K v : V} : ∀ {l : List (V × V)} {i j : Nat}, findS kd K l i = some (some (j, v)) → eqKey kd K K = some true → i ≤ j ∧ findS kd K (l.modify (j - i) fun _ => (K, v)) i = some (some (j, v))
  | [], i, j, h, _ => by simp [findS] at h
  | e :: l, i, j, h, hk => by
    simp only [findS] at h
    split at h
    · simp only [Option.some.injEq, Prod.mk.injEq] at h
      obtain ⟨rfl, rfl⟩ := h
      refine ⟨Nat.le_refl _, ?_⟩
      rw [Nat.sub_self]
      simp only [List.modify_zero_cons, findS, hk]
    · rename_i he
      obtain ⟨h1, h2⟩ := find_put1 h hk
      refine ⟨by omega, ?_⟩
      obtain ⟨m, hm⟩ : ∃ m, j - i = m + 1 := ⟨j - i - 1, by omega⟩
      rw [hm]
      simp only [List.modify_succ_cons, findS, he]
      rw [show j - (i + 1) = m by omega] at h2
      exact h2
    · simp at h
theorem lkAt.uniq {T : Nat → Option TI} {t x k : Nat} {st : St} {ti ti' kd kd' z z' u u' b b' l l' r r'} (h : lkAt T t x k st ti kd z u b l r) (h' : lkAt T t x k st ti' kd' z' u' b' l' r') :
    kd = kd' ∧ z = z' ∧ u = u' ∧ b = b' ∧ l = l' ∧ r = r' := by
  obtain ⟨h1, h2, h3, h4, _, h6⟩ := h
  obtain ⟨g1, g2, g3, g4, _, g6⟩ := h'
  rw [h1] at g1; injection g1 with g1; subst g1
  rw [h2] at g2; injection g2 with g2; injection g2 with g2 g2'; subst g2; subst g2'
  rw [h3] at g3; injection g3 with g3; subst g3
  rw [h4] at g4; injection g4 with g4; injection g4 with g4 g4'; subst g4; subst g4'
  rw [h6] at g6; injection g6 with g6; subst g6
  exact ⟨rfl, rfl, rfl, rfl, rfl, rfl⟩
theorem lkAt.tms {T : Nat → Option TI} {t x k : Nat} {st st' : St} {ti kd z u b l r} (h : lkAt T t x k st ti kd z u b l r) (h1 : st'.tm x = st.tm x) (h2 : st'.tm k = st.tm k) (h3 : st'.ob u = st.ob u) : lkAt T t x k st' ti kd z u b l r := by
  obtain ⟨g1, g2, g3, g4, g5, g6⟩ := h
  exact ⟨g1, g2, h1.trans g3, h3.trans g4, by rw [h2]; exact g5, by rw [h2]; exact g6⟩
theorem lkAt.put {T : Nat → Option TI} {t x k : Nat} {st st' : St} {ti kd z u b l r} (h : lkAt T t x k st ti kd z u b l r) (h1 : st'.tm x = st.tm x) (h2 : st'.tm k = st.tm k)
    (h3 : st'.ob u = some (.map b (putS l (st.tm k) (valOf z.weak r) r))) : ∃ r', lkAt T t x k st' ti kd z u b (putS l (st.tm k) (valOf z.weak r) r) r' ∧ valOf z.weak r' = valOf z.weak r := by
  obtain ⟨g1, g2, g3, g4, ⟨q, g5⟩, g6⟩ := h
  have hq := eqKey_true g5
  subst hq
  cases r with
  | none =>
    refine ⟨some (0 + l.length, z.weak), ⟨g1, g2, h1.trans g3, h3, by rw [h2]; exact ⟨_, g5⟩, ?_⟩, rfl⟩
    rw [h2]
    exact find_put0 g6 g5
  | some p =>
    obtain ⟨j, v⟩ := p
    refine ⟨some (j, v), ⟨g1, g2, h1.trans g3, h3, by rw [h2]; exact ⟨_, g5⟩, ?_⟩, rfl⟩
    rw [h2]
    exact (find_put1 g6 g5).2
/-- A look into a map, and its entry. -/
theorem RunL.swapM1 (hM : M.fu = none) {i j t x k d e : Nat} {L : List Nat} {st st' : St} {o o' : Oper} (h1 : ops[i]? = some o) (k1 : ops[j]? = some o') (ho : o.op = .lookup t (.tmp x) (.tmp k) false) (ho' : o'.op = .mapEntry t (.tmp x) (.tmp k))
    (hg : o.guard = none) (hg' : o'.guard = none) (hd : o.dst = some d) (he : o'.dst = some e) (n1 : d ≠ e) (n2 : x ≠ e) (n3 : k ≠ e) (n4 : x ≠ d) (n5 : k ≠ d) :
    (RunL C T M ops R (i :: j :: L) st st' → RunL C T M ops R (j :: i :: L) st st') ∧ (RunL C T M ops R (j :: i :: L) st st' → RunL C T M ops R (i :: j :: L) st st') := by
  have tmO : ∀ (s : St) (c : Nat) (v : V) (y : Nat), y ≠ c → (s.app [.t c v]).tm y = s.tm y := fun s c v y h => by
    show (s.put c v).tm y = _
    rw [St.tm_put, if_neg (fun e => h e.symm)]
  have tmO2 : ∀ (s : St) (u : Oid) (X : Ob) (c : Nat) (v : V) (y : Nat), y ≠ c → (s.app [.o u X, .t c v]).tm y = s.tm y := fun s u X c v y h => by
    show ((s.putO u X).put c v).tm y = _
    rw [St.tm_put, if_neg (fun e => h e.symm), St.tm_putO]
  have obO2 : ∀ (s : St) (u : Oid) (X : Ob) (c : Nat) (v : V), (s.app [.o u X, .t c v]).ob u = some X := fun s u X c v => by
    show ((s.putO u X).put c v).ob u = _
    rw [St.ob_put, St.ob_putO, if_pos rfl]
  have rd1 : ∀ (s : St) {ti kd z u b l r}, lkAt T t x k s ti kd z u b l r → stepR T M ops o s = [.t x, .t k, .o u] := fun s ti kd z u b l r h => by
    rcases (lk_step (C := C) (M := M) (ops := ops) hM ho hg s []).2 with ⟨_, _, _, _, _, _, _, g, e⟩ | g
    · rw [e, (h.uniq g).2.2.1]
    · exact absurd ⟨_, _, _, _, _, _, _, h⟩ g
  have rd2 : ∀ (s : St) {ti kd z u b l r}, lkAt T t x k s ti kd z u b l r → stepR T M ops o' s = [.t x, .t k, .o u] := fun s ti kd z u b l r h => by
    rcases (me_step (C := C) (M := M) (ops := ops) hM ho' hg' s []).2 with ⟨_, _, _, _, _, _, _, g, e⟩ | g
    · rw [e, (h.uniq g).2.2.1]
    · exact absurd ⟨_, _, _, _, _, _, _, h⟩ g
  have comm : ∀ (u : Oid) (X : Ob) (v w : V) (s : St), Alike ((s.app [.t d v]).app [.o u X, .t e w]) ((s.app [.o u X, .t e w]).app [.t d v]) := fun u X v w s => by
    refine app_comm ?_ s
    intro z hz hz'
    simp [Wr.wh] at hz hz'
    rw [hz] at hz'
    simp at hz'
    exact n1 hz'
  constructor
  · rintro ⟨p, q1, q2, q3, p', r1, r2, r3, r4⟩
    obtain rfl : p = o := by rw [h1] at q1; injection q1 with q1; exact q1.symm
    obtain rfl : p' = o' := by rw [k1] at r1; injection r1 with r1; exact r1.symm
    obtain ⟨ti, kd, z, u, b, l, r, hl, hw⟩ := (lk_step hM ho hg _ _).1.1 q2
    rw [hd] at hw
    have hw : (R i).1 = [.t d (valOf z.weak r)] := hw
    rw [hw] at r2 r3 r4
    have hl1 := hl.tms (st' := st.app [.t d (valOf z.weak r)]) (tmO _ _ _ _ n4) (tmO _ _ _ _ n5) rfl
    obtain ⟨ti', kd', z', u', b', l', r', hl', hw'⟩ := (me_step hM ho' hg' _ _).1.1 r2
    obtain ⟨rfl, rfl, rfl, rfl, rfl, rfl⟩ := hl1.uniq hl'
    rw [he, tmO _ _ _ _ n5] at hw'
    have hw' : (R j).1 = [.o u (.map b (putS l (st.tm k) (valOf z.weak r) r)), .t e (.tup [valOf z.weak r, .int .i64 ((b + idxOf l.length r : Nat) : Int)])] := hw'
    refine ⟨p', k1, (me_step hM ho' hg' _ _).1.2 ⟨ti, kd, z, u, b, l, r, hl, by rw [he]; exact hw'⟩, ?_, p, h1, ?_, ?_, ?_⟩
    · rw [← r3, rd2 _ hl, rd2 _ hl1]
    · obtain ⟨r2', g1, g2⟩ := hl.put (st' := st.app (R j).1) (by rw [hw']; exact tmO2 _ _ _ _ _ _ n2) (by rw [hw']; exact tmO2 _ _ _ _ _ _ n3) (by rw [hw']; exact obO2 _ _ _ _ _)
      exact (lk_step hM ho hg _ _).1.2 ⟨_, _, _, _, _, _, _, g1, by rw [hd, g2, hw]; rfl⟩
    · obtain ⟨r2', g1, g2⟩ := hl.put (st' := st.app (R j).1) (by rw [hw']; exact tmO2 _ _ _ _ _ _ n2) (by rw [hw']; exact tmO2 _ _ _ _ _ _ n3) (by rw [hw']; exact obO2 _ _ _ _ _)
      rw [rd1 _ g1, ← q3, rd1 _ hl]
    · rw [hw, hw']
      rw [hw'] at r4
      exact RunL.congr L (comm _ _ _ _ st) r4
  · rintro ⟨p', r1, r2, r3, p, q1, q2, q3, r4⟩
    obtain rfl : p = o := by rw [h1] at q1; injection q1 with q1; exact q1.symm
    obtain rfl : p' = o' := by rw [k1] at r1; injection r1 with r1; exact r1.symm
    obtain ⟨ti, kd, z, u, b, l, r, hl, hw'⟩ := (me_step hM ho' hg' _ _).1.1 r2
    rw [he] at hw'
    have hw' : (R j).1 = [.o u (.map b (putS l (st.tm k) (valOf z.weak r) r)), .t e (.tup [valOf z.weak r, .int .i64 ((b + idxOf l.length r : Nat) : Int)])] := hw'
    rw [hw'] at q2 q3 r4
    obtain ⟨r2', g1, g2⟩ := hl.put (st' := st.app [.o u (.map b (putS l (st.tm k) (valOf z.weak r) r)), .t e (.tup [valOf z.weak r, .int .i64 ((b + idxOf l.length r : Nat) : Int)])]) (tmO2 _ _ _ _ _ _ n2) (tmO2 _ _ _ _ _ _ n3) (obO2 _ _ _ _ _)
    obtain ⟨ti', kd', z', u', b', l', r', hl', hw⟩ := (lk_step hM ho hg _ _).1.1 q2
    obtain ⟨rfl, rfl, rfl, rfl, rfl, rfl⟩ := g1.uniq hl'
    rw [hd, g2] at hw
    have hw : (R i).1 = [.t d (valOf z.weak r)] := hw
    have hl1 := hl.tms (st' := st.app [.t d (valOf z.weak r)]) (tmO _ _ _ _ n4) (tmO _ _ _ _ n5) rfl
    refine ⟨p, h1, (lk_step hM ho hg _ _).1.2 ⟨_, _, _, _, _, _, _, hl, by rw [hd]; exact hw⟩, ?_, p', k1, ?_, ?_, ?_⟩
    · rw [← q3, rd1 _ g1, rd1 _ hl]
    · rw [hw]
      exact (me_step hM ho' hg' _ _).1.2 ⟨_, _, _, _, _, _, _, hl1, by rw [he, tmO _ _ _ _ n5]; exact hw'⟩
    · rw [hw, rd2 _ hl1, ← r3, rd2 _ hl]
    · rw [hw, hw']
      rw [hw] at r4
      exact RunL.congr L (comm _ _ _ _ st).symm r4
/-- Two loads in turn. -/
theorem RunL.swapF {i j : Nat} {L : List Nat} {st st' : St} (hf : freeAt M ops i j = true) (h : RunL C T M ops R (i :: j :: L) st st') : RunL C T M ops R (j :: i :: L) st st' := by
  obtain ⟨o, h1, h2, h3, o', k1, k2, k3, k4⟩ := h
  have hM : M.fu = none := by
    unfold freeAt at hf
    simp only [Bool.and_eq_true, Option.isNone_iff_eq_none] at hf
    exact hf.1
  simp only [freeAt, h1, k1, hM, Option.isNone_none, Bool.true_and] at hf
  unfold freeP at hf
  split at hf
  case h_4 => simp at hf
  case h_2 =>
    rename_i t x k t' x' k' ho ho'
    simp only [Bool.and_eq_true, Option.isNone_iff_eq_none, beq_iff_eq] at hf
    obtain ⟨⟨⟨⟨⟨hg, hg'⟩, rfl⟩, rfl⟩, rfl⟩, hf⟩ := hf
    split at hf
    · rename_i d e hd he
      simp only [Bool.and_eq_true, bne_iff_ne, ne_eq] at hf
      obtain ⟨⟨⟨⟨n1, n2⟩, n3⟩, n4⟩, n5⟩ := hf
      exact (RunL.swapM1 hM h1 k1 ho ho' hg hg' hd he n1 n2 n3 n4 n5).1 ⟨o, h1, h2, h3, o', k1, k2, k3, k4⟩
    · simp at hf
  case h_3 =>
    rename_i t' x' k' t x k ho ho'
    simp only [Bool.and_eq_true, Option.isNone_iff_eq_none, beq_iff_eq] at hf
    obtain ⟨⟨⟨⟨⟨hg, hg'⟩, rfl⟩, rfl⟩, rfl⟩, hf⟩ := hf
    split at hf
    · rename_i d e hd he
      simp only [Bool.and_eq_true, bne_iff_ne, ne_eq] at hf
      obtain ⟨⟨⟨⟨n1, n2⟩, n3⟩, n4⟩, n5⟩ := hf
      exact (RunL.swapM1 hM k1 h1 ho' ho hg' hg he hd (fun h => n1 h.symm) n4 n5 n2 n3).2 ⟨o, h1, h2, h3, o', k1, k2, k3, k4⟩
    · simp at hf
  rename_i t x t' x' ho ho'
  simp only [Bool.and_eq_true, Option.isNone_iff_eq_none] at hf
  obtain ⟨⟨hg, hg'⟩, hf⟩ := hf
  split at hf
  rotate_left
  · simp at hf
  rename_i d e hd he
  simp only [Bool.and_eq_true, bne_iff_ne, ne_eq, Bool.not_eq_true', Bool.and_eq_false_iff] at hf
  obtain ⟨⟨⟨hde, hxe⟩, hyd⟩, hst⟩ := hf
  have L1 := fun s ws => ld_step (C := C) (T := T) (M := M) (ops := ops) hM ho hg s ws
  have L2 := fun s ws => ld_step (C := C) (T := T) (M := M) (ops := ops) hM ho' hg' s ws
  rw [(L1 _ _).1] at h2
  rw [(L1 st []).2] at h3
  rw [(L2 _ _).1] at k2
  rw [(L2 _ []).2] at k3
  rw [hd] at h2
  rw [he] at k2
  -- what they write
  have shape : ∀ {t : Nat} {x : Operand} {d : Nat} {s : St} {ws : List Wr}, ((ldVal x s).bind fun a => ldWr T M t (some d) a s.ob) = some ws →
      (∃ v, ws = [.t d v]) ∨ (M.steal d = true ∧ ∃ u row cs k y v, ws = [.o u (.cells row (cs.set k y.weak)), .t d v] ∧ s.ob u = some (.cells row cs) ∧ cs[k]? = some y ∧ y.isOwn = true) := by
    intro t x d s ws h
    rw [Option.bind_eq_some_iff] at h
    obtain ⟨a, ha, h⟩ := h
    unfold ldWr at h
    cases hT : T t with
    | none => rw [hT] at h; simp at h
    | some ti =>
      rw [hT] at h
      simp only at h
      cases a <;> simp only [reduceCtorEq] at h
      case ref u off =>
        cases hu : s.ob u with
        | none => rw [hu] at h; simp at h
        | some z =>
          rw [hu] at h
          cases z with
          | cells row cs =>
            simp only at h
            cases hv : getS ti cs off with
            | none => rw [hv] at h; simp at h
            | some v =>
              rw [hv] at h
              simp only at h
              split at h
              · rename_i hc
                simp only [Option.map_some, Option.getD_some, Bool.and_eq_true] at hc
                injection h with h
                right
                refine ⟨hc.1, u, row, cs, off, v, v, h.symm, hu, ?_, hc.2⟩
                unfold getS at hv
                split at hv
                · split at hv
                  · injection hv with hv; rw [← hv] at hc; simp [V.isOwn] at hc
                  · simp at hv
                · exact hv
              · injection h with h
                exact .inl ⟨_, h.symm⟩
          | _ => simp at h
      case eptr cs off =>
        rw [Option.map_eq_some_iff] at h
        obtain ⟨v, _, h⟩ := h
        exact .inl ⟨_, h.symm⟩
  have plain : ∀ {t : Nat} {d : Nat} (a : V) {ob1 ob2 : Oid → Option Ob} {u : Oid} {row : Bool} {cs : List V} {k : Nat} {y : V}, M.steal d = false → ob1 u = some (.cells row cs) → cs[k]? = some y → y.isOwn = true →
      (∀ o, ob2 o = if u = o then some (.cells row (cs.set k y.weak)) else ob1 o) → ldWr T M t (some d) a ob2 = ldWr T M t (some d) a ob1 := by
    intro t d a ob1 ob2 u row cs k y hs h1 h2 h3 h4
    unfold ldWr
    cases hT : T t with
    | none => rfl
    | some ti =>
      simp only
      cases a <;> try rfl
      case ref u2 off =>
        simp only [Option.map_some, Option.getD_some, hs, Bool.false_and, Bool.false_eq_true, if_false]
        rw [h4]
        by_cases e : u = u2
        · subst e
          rw [if_pos rfl, h1]
          simp only
          have := getS_weak (ti := ti) h2 h3 off
          cases g1 : getS ti (cs.set k y.weak) off with
          | none => cases g2 : getS ti cs off with
            | none => rfl
            | some v2 => rw [g1, g2] at this; simp at this
          | some v1 => cases g2 : getS ti cs off with
            | none => rw [g1, g2] at this; simp at this
            | some v2 =>
              rw [g1, g2] at this
              simp only [Option.map_some, Option.some.injEq] at this
              simp only [this]
        · rw [if_neg e]
  have val : ∀ {x : Operand} {d : Nat} {s : St} {ws : List Wr}, notT x d = true → (∀ t, Wh.t t ∈ ws.map Wr.wh → t = d) → ldVal x (s.app ws) = ldVal x s := by
    intro x d s ws h1 h2
    cases x with
    | tmp t =>
      simp only [ldVal]
      rw [app_tm_ne]
      intro h
      have := h2 t h
      subst this
      simp [notT] at h1
    | _ => rfl
  have tmw : ∀ {t : Nat} {x : Operand} {d : Nat} {s : St} {ws : List Wr}, ((ldVal x s).bind fun a => ldWr T M t (some d) a s.ob) = some ws → ∀ t, Wh.t t ∈ ws.map Wr.wh → t = d := by
    intro t x d s ws h t' ht
    rcases shape h with ⟨v, rfl⟩ | ⟨_, u, row, cs, k, y, v, rfl, _⟩
    · simpa [Wr.wh] using ht
    · simpa [Wr.wh] using ht
  have obW : ∀ {s : St} {d : Nat} {v : V} {u : Oid} {x : Ob}, (∀ o, (s.app [.o u x, .t d v]).ob o = if u = o then some x else s.ob o) := by
    intro s d v u x o
    show ((s.putO u x).put d v).ob o = _
    rw [St.ob_put, St.ob_putO]
  have sh1 := shape h2
  have vj := val (s := st) hyd (tmw h2)
  rw [vj] at k2
  have hB : ((ldVal x' st).bind fun a => ldWr T M t' (some e) a st.ob) = some (R j).1 := by
    rw [← k2]
    cases ldVal x' st with
    | none => rfl
    | some a =>
      rcases sh1 with ⟨v, hw⟩ | ⟨hs, u, row, cs, k, y, v, hw, g1, g2, g3⟩
      · rw [hw]; rfl
      · have hse : M.steal e = false := by
          rcases hst with h | h
          · rw [hs] at h; cases h
          · exact h
        simp only [Option.bind_some]
        rw [hw]
        exact (plain a hse g1 g2 g3 obW).symm
  have sh2 := shape hB
  have vi := val (s := st) hxe (tmw hB)
  have hA : ((ldVal x (st.app (R j).1)).bind fun a => ldWr T M t (some d) a (st.app (R j).1).ob) = some (R i).1 := by
    rw [vi, ← h2]
    cases ldVal x st with
    | none => rfl
    | some a =>
      rcases sh2 with ⟨v, hw⟩ | ⟨hs, u, row, cs, k, y, v, hw, g1, g2, g3⟩
      · rw [hw]; rfl
      · have hse : M.steal d = false := by
          rcases hst with h | h
          · exact h
          · rw [hs] at h; cases h
        simp only [Option.bind_some]
        rw [hw]
        exact plain a hse g1 g2 g3 obW
  have hdis : ∀ z ∈ (R i).1.map Wr.wh, z ∉ (R j).1.map Wr.wh := by
    rcases sh1 with ⟨v, hw⟩ | ⟨hs, u, row, cs, k, y, v, hw, _⟩ <;> rcases sh2 with ⟨v', hw'⟩ | ⟨hs', u', row', cs', k', y', v', hw', _⟩ <;> rw [hw, hw']
    · intro z hz hz'
      simp [Wr.wh] at hz hz'
      rw [hz] at hz'
      exact hde (by simpa using hz')
    · intro z hz hz'
      simp [Wr.wh] at hz hz'
      rw [hz] at hz'
      exact hde (by simpa using hz')
    · intro z hz hz'
      simp [Wr.wh] at hz hz'
      rw [hz'] at hz
      exact hde (by simp at hz; exact hz.symm)
    · rw [hs, hs'] at hst; simp at hst
  have rj : ldRd T t' x' st = (R j).2 := by
    rw [← k3]
    unfold ldRd
    rw [vj]
  have ri : ldRd T t x (st.app (R j).1) = (R i).2 := by
    rw [← h3]
    unfold ldRd
    rw [vi]
  refine ⟨o', k1, (L2 _ _).1.2 (by rw [he]; exact hB), (L2 _ []).2.trans rj, o, h1, (L1 _ _).1.2 (by rw [hd]; exact hA), (L1 _ []).2.trans ri, RunL.congr L (app_comm hdis st) k4⟩
theorem RunL.front {i : Nat} : ∀ (C1 : List Nat) {C2 : List Nat} {st st' : St}, (∀ c ∈ C1, (foot R c).clash (foot R i) = false ∨ freeAt M ops c i = true) → RunL C T M ops R (C1 ++ i :: C2) st st' → RunL C T M ops R (i :: (C1 ++ C2)) st st' := by
  intro C1
  induction C1 with
  | nil => intro C2 st st' _ h; exact h
  | cons c C1 ih =>
    intro C2 st st' hn h
    obtain ⟨o, h1, h2, h3, h4⟩ := h
    rcases hn c (by simp) with hc | hc
    · exact RunL.swap hc ⟨o, h1, h2, h3, ih (fun d hd => hn d (by simp [hd])) h4⟩
    · exact RunL.swapF hc ⟨o, h1, h2, h3, ih (fun d hd => hn d (by simp [hd])) h4⟩
end

section
variable {P : Program} {T : Nat → Option TI} {M : Mode} {F : Fr} {n : Nat} {D : List Deferred}

theorem step_sound (hT : TabOk P T) {ops : List Oper} {Q : Exit → Act → World → Prop} {K : Act → World → Prop} {H μ st a w} {i : Nat} {o : Oper} (hF : opF T M o = opN T M o) (ho : ops[i]? = some o) {ws : List Wr}
    (hd : ∀ d, o.dst = some d → d < n) (hs : stepW (COk P F.B) T M ops o st ws) (hat : AtS H μ F st a w n D)
    (hK : ∀ a' w' H' μ', AtS H' μ' F (st.app ws) a' w' n D → Ext F H w H' w' → K a' w') : wpOp P ops.toArray Q i K a w := by
  unfold wpOp
  have ho' : ops.toArray[i]? = some o := by simpa using ho
  rw [ho']
  unfold stepW at hs
  dsimp only
  split at hs
  · rename_i hw
    have hwant := wanted_run hat hw (by simp)
    simp at hwant
    rw [hwant, if_pos rfl]
    left
    rw [hF] at hs
    split at hs
    · rename_i lw hop
      subst hs
      rcases opN_run hT hat.rel (env_of a) hop with ⟨l', e, hgood⟩ | ⟨_, e, _⟩ | ⟨_, _, _, _, _, _, _, e, _⟩
      · simp at e
        subst e
        obtain ⟨H1, μ1, w1, u, v, h1, h2, h3, h4⟩ := hgood
        simp only [Oper.wp, h1]
        have hnext : K (a.put o.dst v) w1 := hK _ _ _ _ (hat.put hd h3) h4
        rcases h2 with rfl | ⟨rfl, rfl⟩
        · exact hnext
        · exact hnext
      · simp at e
      · simp at e
    · rename_i f args objs nw way hop
      rcases opN_run hT hat.rel (env_of a) hop with ⟨l', e, _⟩ | ⟨_, e, _⟩ | ⟨f', args', objs', nw', way', g', us, e, c1, h6⟩
      · simp at e
      · simp at e
      · simp only [Res.call.injEq] at e
        obtain ⟨rfl, rfl, rfl, rfl, rfl⟩ := e
        obtain ⟨r, objs1, news, hc, hnw, rfl⟩ := hs
        obtain ⟨c2, c3⟩ := c1 _ hc (by rintro _ _ _ ⟨rfl, rfl, rfl⟩; exact hnw)
        simp only [Oper.wp, h6, c2, Oper.upon_enter]
        refine Calls.mono c3 ?_
        rintro e w1 ⟨_, _, _, ⟨rfl, rfl, rfl⟩, v, H1, μ2, rfl, k1, k2⟩
        exact hK _ _ _ _ (hat.put hd k1) k2
    · exact hs.elim
    · exact hs.elim
  · rename_i hw
    have hwant := wanted_run hat hw (by simp)
    simp at hwant
    rw [hwant, if_neg (by simp)]
    subst hs
    have hrel : Rel H μ F (st.app (out o.dst (.tup []))) (after o.dst (tmOf a) undef) w := out_rel' hat.rel (.tup _ _ .nil) rfl
    exact hK _ _ _ _ (hat.put hd hrel) (Ext.refl _ _ _)
  · exact hs.elim

/-- The canonical run. -/
theorem runD_run {C : Orc} {ops : List Oper} {Q : List Foot → St → Prop} : ∀ (l : List Oper) (k : Nat) (st : St) (fs : List Foot), l = ops.drop k → k + l.length = ops.length → runD C T M ops l st fs Q →
    ∃ (recs : List (List Wr × List Wh)) (st' : St), recs.length = l.length ∧ Q (fs ++ recs.map fun r => ⟨r.2, r.1.map Wr.wh⟩) st' ∧
      ∀ R : Nat → List Wr × List Wh, (∀ j (hj : j < recs.length), R (k + j) = recs[j]) → RunL C T M ops R (List.range' k l.length) st st' := by
  intro l
  induction l with
  | nil => intro k st fs _ _ h; exact ⟨[], st, rfl, by simpa [runD] using h, fun R _ => Alike.refl _⟩
  | cons o rest ih =>
    intro k st fs hl hk h
    have hk1 : k < ops.length := by simp at hk; omega
    have ho : ops[k]? = some o := by
      have := congrArg List.head? hl
      rw [List.head?_drop] at this
      simpa using this.symm
    have hrest : rest = ops.drop (k + 1) := by
      have := congrArg List.tail hl
      simpa using this
    have hk2 : (k + 1) + rest.length = ops.length := by simp at hk; omega
    have key : ∀ (ws : List Wr), stepW C T M ops o st ws → runD C T M ops rest (st.app ws) (fs ++ [⟨stepR T M ops o st, ws.map Wr.wh⟩]) Q →
        ∃ (recs : List (List Wr × List Wh)) (st' : St), recs.length = (o :: rest).length ∧ Q (fs ++ recs.map fun r => ⟨r.2, r.1.map Wr.wh⟩) st' ∧
          ∀ R : Nat → List Wr × List Wh, (∀ j (hj : j < recs.length), R (k + j) = recs[j]) → RunL C T M ops R (List.range' k (o :: rest).length) st st' := by
      intro ws hs hr
      obtain ⟨recs, st', e1, e2, e3⟩ := ih (k + 1) (st.app ws) _ hrest hk2 hr
      refine ⟨(ws, stepR T M ops o st) :: recs, st', by simp [e1], by simpa using e2, fun R hR => ?_⟩
      have h0 := hR 0 (by simp)
      simp at h0
      refine ⟨o, ho, by rw [h0]; exact hs, by rw [h0], ?_⟩
      rw [h0]
      exact e3 R (fun j hj => by
        have := hR (j + 1) (by simpa using hj)
        simp at this
        rw [show k + 1 + j = k + (j + 1) from by omega]
        exact this)
    simp only [runD] at h
    split at h
    · rename_i hw
      have hR : stepR T M ops o st = (wanted ops o).reads st ++ (opF T M o).reads st := by unfold stepR; rw [hw]
      split at h
      · rename_i lw hop
        refine key lw ?_ (by rw [hR]; exact h)
        unfold stepW
        rw [hw]
        simp only [hop]
      · rename_i f args objs nw way hop
        obtain ⟨r, objs', news, hc, hnw, h⟩ := h
        refine key (back way r objs' news) ?_ (by rw [hR]; exact h)
        unfold stepW
        rw [hw]
        simp only [hop]
        exact ⟨r, objs', news, hc, hnw, rfl⟩
      · exact h.elim
      · exact h.elim
    · rename_i hw
      have hR : stepR T M ops o st = (wanted ops o).reads st := by unfold stepR; rw [hw]
      refine key (out o.dst (.tup [])) ?_ (by rw [hR]; exact h)
      unfold stepW
      rw [hw]
    · exact h.elim

/-- Whatever order is drawn, the end is alike. -/
theorem draw_sound (hM : M.fu = none) (hT : TabOk P T) {ops : List Oper} (hd : ∀ o ∈ ops, ∀ d, o.dst = some d → d < n) {K : Exit → Act → World → Prop} {R : Nat → List Wr × List Wh} {fs : List Foot}
    (hok : orderOk M ops fs = true) (hfs : ∀ i, i < ops.length → fs.getD i ⟨[], []⟩ = foot R i) {st' : St} {H0 : Heap} {w0 : World}
    (hK : ∀ stE a' w' H' μ', Alike stE st' → AtS H' μ' F stE a' w' n D → Ext F H0 w0 H' w' → K .normal a' w') :
    ∀ (fuel : Nat) (listed : Array Bool) (C : List Nat) (st : St) (a : Act) (w : World) (H : Heap) (μ : Oid → Option Nat), listed.size = ops.length →
      C = (List.range ops.length).filter (fun j => !listed.getD j true) → C.length = fuel → RunL (COk P F.B) T M ops R C st st' → AtS H μ F st a w n D → Ext F H0 w0 H w →
      (∀ j, j < ops.length → listed.getD j true = true → ∀ c ∈ (clos ops).getD j [], listed.getD c true = true) →
      wpAny P .any ops.toArray K fuel listed a w := by
  have hok' : ∀ i (hi : i < ops.length), (∀ e ∈ binding ops[i], e < i) ∧ (∀ c ∈ (clos ops).getD i [], ∃ e ∈ binding ops[i], c = e ∨ c ∈ (clos ops).getD e []) ∧
      ∀ c, c < i → (foot R c).clash (foot R i) = true → freeAt M ops c i = true ∨ c ∈ (clos ops).getD i [] := by
    intro i hi
    simp only [orderOk, Bool.and_eq_true] at hok
    have := List.all_eq_true.1 hok.2 (ops[i], i) (by rw [List.mem_zipIdx_iff_getElem?]; simp [hi])
    simp only [Bool.and_eq_true, List.all_eq_true, decide_eq_true_eq, List.any_eq_true, Bool.or_eq_true, beq_iff_eq, Bool.not_eq_true', List.mem_range, List.contains_iff_mem] at this
    obtain ⟨⟨h1, h2⟩, h3⟩ := this
    refine ⟨h1, h2, fun c hc hcl => ?_⟩
    rcases h3 c hc with (h | h) | h
    · rw [hfs c (by omega), hfs i hi, hcl] at h
      simp at h
    · exact .inr h
    · exact .inl h
  intro fuel
  induction fuel with
  | zero =>
    intro listed C st a w H μ hls hC hlen hrun hat hx hcl
    have hC0 : C = [] := List.eq_nil_of_length_eq_zero hlen
    subst hC0
    refine ⟨?_, hK st a w H μ hrun hat hx⟩
    have : ∀ j, j < ops.length → listed.getD j true = true := by
      intro j hj
      have := List.filter_eq_nil_iff.1 hC.symm j (by simpa using hj)
      simpa using this
    refine List.filter_eq_nil_iff.2 fun j hj => ?_
    simp at hj
    simp [this j hj]
  | succ fuel ih =>
    intro listed C st a w H μ hls hC hlen hrun hat hx hcl
    have hmem : ∀ j, j ∈ C ↔ j < ops.length ∧ listed.getD j true = false := by
      intro j
      rw [hC]
      simp
    have hready : ∀ i, i ∈ Region.ready .any ops.toArray listed ↔ ∃ hi : i < ops.length, listed.getD i true = false ∧ ∀ e ∈ binding ops[i], listed.getD e false = true := by
      intro i
      simp only [Region.ready, List.mem_filter, List.mem_range, List.size_toArray, Bool.and_eq_true, Bool.not_eq_true']
      constructor
      · rintro ⟨hi, h1, h2⟩
        refine ⟨hi, h1, fun e he => ?_⟩
        simp only [binding, List.mem_map, List.mem_filter] at he
        obtain ⟨ed, ⟨he1, he2⟩, rfl⟩ := he
        simp only [List.getElem?_toArray, List.getElem?_eq_getElem hi, Option.map_some, Option.getD_some] at h2
        have := Array.all_eq_true_iff_forall_mem.1 h2 ed (by simpa using he1)
        simpa [he2] using this
      · rintro ⟨hi, h1, h2⟩
        refine ⟨hi, h1, ?_⟩
        simp only [List.getElem?_toArray, List.getElem?_eq_getElem hi, Option.map_some, Option.getD_some]
        refine Array.all_eq_true_iff_forall_mem.2 fun ed he => ?_
        by_cases hb : Region.binds .any ed = true
        · have := h2 ed.on (by simp only [binding, List.mem_map, List.mem_filter]; exact ⟨ed, ⟨by simpa using he, hb⟩, rfl⟩)
          simp [this]
        · simp [hb]
    refine ⟨fun hnil => ?_, fun i hi => ?_⟩
    · -- the least that is left is ready
      exfalso
      cases hc : C with
      | nil => rw [hc] at hlen; simp at hlen
      | cons c0 C' =>
        have hc0 : c0 ∈ C := by rw [hc]; simp
        obtain ⟨hlt, hun⟩ := (hmem c0).1 hc0
        have hmin : ∀ j, j < c0 → listed.getD j false = true := by
          intro j hj
          have hjlt : j < ops.length := by omega
          have hsorted : C.Pairwise (· < ·) := by rw [hC]; exact List.Pairwise.filter _ List.pairwise_lt_range
          by_cases hl : listed.getD j true = true
          · rw [Array.getD_eq_getD_getElem?, Array.getElem?_eq_getElem (by omega)] at hl ⊢
            exact hl
          · exfalso
            have hjm : j ∈ C := (hmem j).2 ⟨hjlt, by simpa using hl⟩
            rw [hc] at hjm hsorted
            rcases List.mem_cons.1 hjm with rfl | hjm
            · omega
            · have := (List.pairwise_cons.1 hsorted).1 j hjm
              omega
        have : c0 ∈ Region.ready .any ops.toArray listed := (hready c0).2 ⟨hlt, hun, fun e he => hmin e ((hok' c0 hlt).1 e he)⟩
        rw [hnil] at this
        simp at this
    · obtain ⟨hlt, hun, hall⟩ := (hready i).1 hi
      have him : i ∈ C := (hmem i).2 ⟨hlt, hun⟩
      obtain ⟨C1, C2, hsplit⟩ := List.append_of_mem him
      have hsorted : C.Pairwise (· < ·) := by rw [hC]; exact List.Pairwise.filter _ List.pairwise_lt_range
      have hC1 : ∀ c ∈ C1, c < i ∧ listed.getD c true = false := by
        intro c hc
        rw [hsplit] at hsorted
        exact ⟨(List.pairwise_append.1 hsorted).2.2 c hc i (by simp), ((hmem c).1 (by rw [hsplit]; simp [hc])).2⟩
      have hlt' : ∀ e : Nat, listed.getD e false = true → listed.getD e true = true := by
        intro e he
        rw [Array.getD_eq_getD_getElem?] at he ⊢
        cases hq : listed[e]? with
        | none => rfl
        | some q => rw [hq] at he; exact he
      have hlist : ∀ c ∈ (clos ops).getD i [], listed.getD c true = true := by
        intro c hc
        obtain ⟨e, he, h⟩ := (hok' i hlt).2.1 c hc
        have hle := hlt' e (hall e he)
        rcases h with rfl | h
        · exact hle
        · have : e < ops.length := by have := (hok' i hlt).1 e he; omega
          exact hcl e this hle c h
      have hno : ∀ c ∈ C1, (foot R c).clash (foot R i) = false ∨ freeAt M ops c i = true := by
        intro c hc
        obtain ⟨h1, h2⟩ := hC1 c hc
        cases hq : (foot R c).clash (foot R i) with
        | false => exact .inl rfl
        | true =>
          rcases (hok' i hlt).2.2 c h1 hq with h | h
          · exact .inr h
          · have := hlist c h
            rw [h2] at this
            simp at this
      rw [hsplit] at hrun
      obtain ⟨o, g1, g2, g3, g4⟩ := RunL.front C1 hno hrun
      have hoe : o = ops[i] := by rw [List.getElem?_eq_getElem hlt] at g1; injection g1 with g1; exact g1.symm
      refine step_sound hT (opF_none hM _) g1 (hd o (by rw [hoe]; exact List.getElem_mem hlt)) g2 hat fun a' w' H' μ' hat' hx' => ?_
      have hset : ∀ j, (listed.setIfInBounds i true).getD j true = if j = i then true else listed.getD j true := by
        intro j
        simp only [Array.getD_eq_getD_getElem?, Array.getElem?_setIfInBounds]
        by_cases e : i = j
        · subst e; simp [show i < listed.size by omega]
        · simp [e, Ne.symm e]
      refine ih (listed.setIfInBounds i true) (C1 ++ C2) (st.app (R i).1) a' w' H' μ' (by simpa using hls) ?_ ?_ g4 hat' (hx.trans hx') ?_
      · have hnd : C.Nodup := hsorted.imp (fun h => Nat.ne_of_lt h)
        have h1 : (List.range ops.length).filter (fun j => !(listed.setIfInBounds i true).getD j true) = C.filter (fun j => decide (j ≠ i)) := by
          rw [hC, List.filter_filter]
          refine List.filter_congr fun j hj => ?_
          rw [hset]
          by_cases e : j = i <;> simp [e]
        rw [h1, hsplit, List.filter_append, List.filter_cons]
        simp only [ne_eq, not_true_eq_false, decide_false, Bool.false_eq_true, if_false]
        rw [hsplit] at hnd
        have hni := List.nodup_append.1 hnd
        rw [List.filter_eq_self.2, List.filter_eq_self.2]
        · intro c hc
          have := (List.nodup_cons.1 hni.2.1).1
          simp
          rintro rfl
          exact this hc
        · intro c hc
          have := hni.2.2 c hc i (by simp)
          simpa using this
      · rw [hsplit] at hlen
        simp at hlen ⊢
        omega
      · intro j hj hl c hc
        rw [hset] at hl ⊢
        by_cases e : j = i
        · subst e
          split
          · rfl
          · exact hlist c hc
        · rw [if_neg e] at hl
          have := hcl j hj hl c hc
          split
          · rfl
          · exact this
end
end Go.Ax
set_option linter.unusedVariables false
set_option linter.constructorNameAsVariable false
set_option linter.unusedSimpArgs false
namespace Go.Ax
attribute [local simp] look_cons
/-! ### regions that draw their order, with a row grown by an element that is written afterwards -/
def rowSet (w : World) (b : Nat) (ty : TypeId) (vs : Array Value) : World := { w with heap := w.heap.setIfInBounds b (.cells vs ty (0, 0)) }
section
variable {w : World} {b : Nat} {ty : TypeId} {vs vs' : Array Value}
theorem setRow_rowSet (h : w.heap[b]? = some (.cells vs ty (0, 0))) (cs : Array Value) : w.setRow b cs = rowSet w b ty cs := by
  unfold World.setRow rowSet
  congr 1
  apply Array.ext_getElem?
  intro i
  rw [Array.getElem?_modify, Array.getElem?_setIfInBounds]
  split
  · rename_i e
    subst e
    have hlt := (Array.getElem?_eq_some_iff.1 h).1
    rw [h]
    simp [hlt]
  · rfl
theorem rowSet_at (h : w.heap[b]? = some (.cells vs ty (0, 0))) : (rowSet w b ty vs').heap[b]? = some (.cells vs' ty (0, 0)) := by
  have hlt := (Array.getElem?_eq_some_iff.1 h).1
  simp [rowSet, hlt]
theorem rowSet_ne {k : Nat} (h : k ≠ b) : (rowSet w b ty vs').heap[k]? = w.heap[k]? := by
  simp [rowSet, Array.getElem?_setIfInBounds, Ne.symm h]
theorem rowSet_set (x y : Array Value) : rowSet (rowSet w b ty x) b ty y = rowSet w b ty y := by simp [rowSet]
theorem rowSet_push (x y : Array Value) (w : World) : rowSet { w with heap := w.heap.push (.cells x ty) } w.heap.size ty y = { w with heap := w.heap.push (.cells y ty) } := by
  unfold rowSet
  congr 1
  apply Array.ext_getElem?
  intro i
  simp only [Array.getElem?_setIfInBounds, Array.getElem?_push, Array.size_push]
  split
  · rename_i e; subst e; simp
  · rename_i e; simp [Ne.symm e]
theorem store_row {P : Program} {q : Nat} {us : List Value} (h : w.heap[b]? = some (.cells vs ty (0, 0))) (hl : q + us.length ≤ vs.size) (h1 : ∀ u ∈ us, cellV u = true) :
    (storeCells ⟨b, q, none⟩ us).run P w = .ok () (rowSet w b ty (vs.toList.take q ++ us ++ vs.toList.drop (q + us.length)).toArray) := by
  have := run_storeCells_at (P := P) b q ty us 0 vs w h (by simpa using hl) (fun u hu => cellV_one (h1 u hu))
  rw [this, setRow_rowSet h]
  simp
end
section
variable {P : Program} {T : Nat → Option TI} {M : Mode} {F : Fr} {n : Nat} {D : List Deferred}
/-- While the element isn't written: what is known. -/
structure Pnd (P : Program) (f : Fu) (pj : Prop) (H : Heap) (tm : Nat → Value) (w w' : World) (b q : Nat) (ty : TypeId) (vs vs' : Array Value) : Prop where
  d8 : ∃ off cnt c kk us e ie it, tm f.d8 = .slice (some ⟨b, off, none⟩) (cnt + 1) c ∧ tm f.n = .int kk (cnt : Int) ∧ (tm f.y).cells.toList = us ∧ P.underlying f.t9 = some (.slice e) ∧ P.info? e = some ie ∧ ie.size = us.length ∧
    P.info? f.te = some it ∧ it.size = us.length ∧ q = off + cnt * us.length
  d9 : pj → tm f.d9 = .pointer (some ⟨b, q, none⟩)
  blk : w.heap[b]? = some (.cells vs ty (0, 0))
  w' : w' = rowSet w b ty vs'
  sto : ∀ w1 : World, w1.heap[b]? = some (.cells vs ty (0, 0)) → (storeCells ⟨b, q, none⟩ (tm f.y).cells.toList).run P w1 = .ok () (rowSet w1 b ty vs')
  known : H b q ≠ none
theorem Pnd.keep {f : Fu} {pj : Prop} {H H' : Heap} {tm tm' : Nat → Value} {w w' w1 : World} {b q : Nat} {ty : TypeId} {vs vs' : Array Value} (h : Pnd P f pj H tm w w' b q ty vs vs') (hl : Le H H')
    (h8 : tm' f.d8 = tm f.d8) (hn : tm' f.n = tm f.n) (hy : tm' f.y = tm f.y) (h9 : pj → tm' f.d9 = tm f.d9) (hb : w1.heap[b]? = w.heap[b]?) : Pnd P f pj H' tm' w1 (rowSet w1 b ty vs') b q ty vs vs' := by
  refine ⟨?_, fun p => by rw [h9 p]; exact h.d9 p, by rw [hb]; exact h.blk, rfl, fun w2 h2 => by rw [hy]; exact h.sto w2 h2, fun e => ?_⟩
  · rw [h8, hn, hy]; exact h.d8
  · cases hq : H b q with
    | none => exact h.known hq
    | some v => rw [hl.cell _ _ _ hq] at e; cases e
theorem RepRow.last {H : Heap} {sz b off : Nat} {xs : List V} {y : V} (h : RepRow H sz b off (xs ++ [y])) (hs : 0 < sz) : H b (off + xs.length * sz) ≠ none := by
  obtain ⟨vs, h1, _, h3⟩ := h.get xs.length (by simp)
  have := h3 0 (by omega)
  rw [Nat.add_zero] at this
  rw [this]
  simp
theorem fuA_start (hT : TabOk P T) {f : Fu} {o : Oper} {st : St} {l : List Wr} {H : Heap} {μ : Oid → Option Nat} {tm : Nat → Value} {ρ : Operand → Value} {w : World} (hr : Rel H μ F st tm w) (hρ : Env ρ tm)
    (h : (fuA T f o).run st = some (.ws l)) (hd : o.dst = some f.d8) (hn8 : f.n ≠ f.d8) (hy8 : f.y ≠ f.d8) :
    ∃ v w1 w' H' b q ty vs vs', (execOp ρ o).run P w = .ok (.value v) w1 ∧ Rel H' μ F (st.app l) (after o.dst tm v) w' ∧ Ext F H w H' w' ∧ Pnd P f False H' (after o.dst tm v) w1 w' b q ty vs vs' := by
  unfold fuA at h
  split at h
  rotate_left
  · simp [Rd.run] at h
  rename_i args at' ho
  replace h := rd_bind _ _ _ h
  obtain ⟨vl, hvs, h⟩ := h
  obtain ⟨e1, e2⟩ := evs_rep hr hρ hvs
  replace h := rd_bind _ _ _ h
  obtain ⟨t, ht, h⟩ := h
  replace h := rd_bind _ _ _ h
  obtain ⟨ti, hti, h⟩ := h
  have hti := hT _ _ (rd_rOpt hti)
  replace h := rd_bind _ _ _ h
  obtain ⟨tj, htj, h⟩ := h
  have htj := hT _ _ (rd_rOpt htj)
  replace h := rd_bind _ _ _ h
  obtain ⟨⟨sz, bytes⟩, hsz, h⟩ := h
  have hsz := rd_rOpt hsz
  simp only [Rd.run] at h
  split at h
  rotate_left
  · simp [Rd.run] at h
  rename_i s xs zV i hmap hvn
  replace h := rd_bind _ _ _ h
  obtain ⟨⟨s', zs⟩, hzs, h⟩ := h
  have hzs := rd_rOpt hzs
  dsimp only at h
  split at h
  rotate_left
  · simp [Rd.run] at h
  rename_i hc
  obtain ⟨rfl, rfl, hz1, hi, htjs, ht9, hat, hlim, hyl, hyp⟩ := hc
  have := rd_pure h
  injection this with this
  subst this
  clear h
  obtain ⟨e, ie, zz, hu, hie, hies, hieb, hiez, hzc, hs0, hb0⟩ := hti.esz _ _ hsz
  obtain ⟨it, zt, hit, hits, _⟩ := htj.info
  have hvl : vl.length = 2 := by
    have := congrArg List.length hmap
    simpa using this
  obtain ⟨x, z, rfl⟩ := list2 (l := args) (by omega)
  obtain ⟨v0, v1, rfl⟩ : ∃ v0 v1, vl = [v0, v1] := by
    match vl, hvl with
    | [a, b], _ => exact ⟨a, b, rfl⟩
  have hat' : at' = #[t, t] := by
    apply Array.ext'
    simpa using hat
  subst hat'
  simp at hmap
  obtain ⟨hm0, hm1⟩ := hmap
  have r0 := e2 0 (by simp) (by simp)
  have r1 := e2 1 (by simp) (by simp)
  simp at r0 r1
  have hx : RepS H μ (.own s' xs) (ρ x) := hm0 ▸ fixT_rep' r0.1
  have hz : RepS H μ zV (ρ z) := hm1 ▸ fixT_rep' r1.1
  have hev := r0.2
  obtain ⟨flat, f1, f2, f3, f4, f5⟩ := first_run (P := P) hr hz hzs
  rw [hz1] at f1 f2 f3
  have hlenOf : ∀ w' : World, (Builtin.lenOf (ρ z)).run P w' = .ok 1 w' := by
    intro w'
    rcases hz.elems hzs with ⟨e, e'⟩ | ⟨_, _, e, e'⟩ | ⟨b, off, c, e, _⟩
    · rw [e']at hz1; simp at hz1
    · rw [e'] at hz1; simp at hz1
    · rw [e, hz1]; simp [Builtin.lenOf]
  have hzcells : ∀ u ∈ flat, cellV u = true := f5.cellsV
  -- the element
  have hyr := hr.env f.y
  have hyD : RepD H (st.tm f.y).weak (tm f.y) := RepD.of_pure hyr hyp
  obtain ⟨us, hus⟩ : ∃ us, (tm f.y).cells.toList = us := ⟨_, rfl⟩
  have hyL : RepL H (st.tm f.y).weak.cells us := hus ▸ hyD.cells
  have hyl' : (st.tm f.y).weak.cells.length = s' := by rw [cells_weak_length]; exact hyl
  have husl : us.length = s' := by rw [← hyL.length, hyl']
  have hucells : ∀ u ∈ us, cellV u = true := hyL.cellsV
  have hnv : tm f.n = .int .i64 (xs.length : Int) := by
    have := hr.env f.n
    rw [hvn] at this
    rw [this.int, hi]
  obtain ⟨k1, k2⟩ := giveUp_rel (ti := some ti) hr hρ hev rfl
  rw [hm0] at k1 k2
  have hga : giveUp ((#[x, z] : Array Operand).getD 0 (.global 0)) (.own s' xs) = giveUp x (.own s' xs) := rfl
  rw [hga, St.app_append]
  generalize hst1 : st.app (giveUp x (.own s' xs)) = st1 at k1 k2
  have hap := fun (c : Nat) (base : Option Addr) (hb : ρ x = .slice base xs.length c) => append_run (P := P) (w := w) hti (.inl ⟨e, hu⟩) hsz ho hb (fun w' hw' => f1 w' (fun b k u hu => by rw [cell?_eq (w := w) (w' := w') (by rw [hw'])]; exact hr.heap _ _ _ hu)) hlenOf (by simpa using f3) hlim
  have hfl : flat.length = s' := by simpa using f3
  have tmv : ∀ (v : Value) (q : Nat), q ≠ f.d8 → after o.dst tm v q = tm q := fun v q hq => by rw [hd]; simp [after, upd, hq]
  have tm8 : ∀ v : Value, after o.dst tm v f.d8 = v := fun v => by rw [hd]; simp [after, upd]
  -- a new row
  have hgrow : ∀ (base : Option Addr) (c : Nat) (hbase : ρ x = .slice base xs.length c), ¬ xs.length + 1 ≤ c → (∀ q ∈ xs, q.cells.length = s') →
      ∀ old : List Value, (∀ w' : World, w'.heap = w.heap → (Builtin.firstCells s' xs.length (.slice base xs.length c)).run P w' = .ok old.toArray w') → old.length = xs.length * s' → RepL H (xs.flatMap V.cells) old →
      ∃ v w1 w' H' b q ty vs vs', (execOp ρ o).run P w = .ok (.value v) w1 ∧ Rel H' μ F (st1.app (out o.dst (.own s' (xs ++ [(st.tm f.y).weak])))) (after o.dst tm v) w' ∧ Ext F H w H' w' ∧ Pnd P f False H' (after o.dst tm v) w1 w' b q ty vs vs' := by
    intro base c hbase hle hxc old hold o1 o2
    obtain ⟨newCap, w1, e', zs', q1, q2, q3, q4, q5⟩ := (hap c base hbase).2 hle old hold o1
    have k1' : Rel H μ F st1 tm w1 := k1.world q2
    obtain ⟨n1, n2, n3, n4, n5⟩ := k1'.newRow (sz := s') (c := newCap) (xs := xs ++ [(st.tm f.y).weak]) (flat := old ++ us) (vs := old.toArray ++ us.toArray ++ zs') (ty := e')
      (w' := { w1 with heap := w1.heap.push (.cells (old.toArray ++ us.toArray ++ zs') e') }) rfl ⟨rfl, rfl, rfl⟩
      ⟨zs'.toList, by simp⟩
      (fun q hq => by
        rcases List.mem_append.1 hq with hq | hq
        · exact hxc q hq
        · simp at hq; subst hq; exact hyl')
      (by rw [List.flatMap_append]; simpa using o2.append hyL) (by simp; omega) (by
        have : (old.toArray ++ us.toArray ++ zs').size = (old.toArray ++ flat.toArray ++ zs').size := by simp [husl, hfl]
        rw [this]; omega)
    have hlenA : (xs ++ [(st.tm f.y).weak]).length = xs.length + 1 := by simp
    have n3' := n3
    rw [hlenA] at n3 n4
    refine ⟨.slice (some ⟨w1.heap.size, 0, none⟩) (xs.length + 1) newCap, _, { w1 with heap := w1.heap.push (.cells (old.toArray ++ us.toArray ++ zs') e') }, _, w1.heap.size, 0 + xs.length * us.length, e', old.toArray ++ flat.toArray ++ zs', old.toArray ++ us.toArray ++ zs', q5,
      out_rel n1 (.two _ _ (.one _ _ n3)) (fun sz' xs' b off n c' q1 q2 => ?_), (Ext.world q2 q3).trans n2, ⟨⟨0, xs.length, newCap, .i64, us, e, ie, it, ?_, ?_, ?_, ?_, hie, by rw [hies, husl], hit, by rw [hits, htjs, husl], rfl⟩, fun h => h.elim, by simp, ?_, fun w2 h2 => ?_, ?_⟩⟩
    · simp only [V.own.injEq] at q1
      obtain ⟨rfl, rfl⟩ := q1
      simp only [Value.slice.injEq, Option.some.injEq, Addr.mk.injEq] at q2
      obtain ⟨⟨rfl, rfl, _⟩, rfl, rfl⟩ := q2
      exact ⟨n4, n5⟩
    · exact tm8 _
    · rw [tmv _ _ hn8]; exact hnv
    · rw [tmv _ _ hy8]; exact hus
    · rw [ht9]; exact hu
    · rw [rowSet_push]
    · rw [tmv _ _ hy8, hus]
      have := store_row (P := P) (q := 0 + xs.length * us.length) h2 (us := us) (by simp [o1, husl, hfl]) hucells
      rw [this]
      congr 2
      have hq : 0 + xs.length * us.length = old.length := by rw [husl, o1, Nat.zero_add]
      rw [hq]
      apply Array.ext'
      simp only [Array.toList_append, List.append_assoc]
      rw [List.take_left']
      · have : (old ++ (flat ++ zs'.toList)).drop (old.length + us.length) = zs'.toList := by
          rw [← List.append_assoc, List.drop_left' (by simp [husl, hfl])]
        rw [this]
      · rfl
    · rw [husl]
      rcases (RepS.two _ _ (.one _ _ n3')).elems rfl with ⟨ex, _⟩ | ⟨_, e0, _⟩ | ⟨b, off, c, ex, _, hrow⟩
      · cases ex
      · cases e0
      · simp only [Value.slice.injEq, Option.some.injEq, Addr.mk.injEq] at ex
        obtain ⟨⟨rfl, rfl, _⟩, _, _⟩ := ex
        exact RepRow.last hrow hs0
  rcases hx.elems (sz := s') (xs := xs) rfl with ⟨ex, exs⟩ | ⟨_, e0, _⟩ | ⟨b, off, c, ex, hcap, hrow⟩
  rotate_left
  · cases e0
  rotate_left
  · subst exs
    exact hgrow none 0 (by simpa using ex) (by simp) (by simp) [] (fun w' _ => by simp [Builtin.firstCells]) (by simp) .nil
  · by_cases hle : xs.length + 1 ≤ c
    · obtain ⟨o1, o2⟩ := k2 _ _ _ _ _ _ rfl ex
      have htop : off + xs.length * s' + 0 + us.length ≤ off + c * s' := by
        have := Nat.mul_le_mul_right s' hle
        rw [Nat.succ_mul] at this
        omega
      obtain ⟨H2, w2, p1, p2, p3, p4, p5, p6⟩ := fillAll (P := P) us w H (off + xs.length * s') 0 k1 (by simpa using o1) o2 htop hucells
      obtain ⟨⟨cur, ty, hblk, hts⟩, _, _, _⟩ := o1
      have hrow2 : RepRow H2 s' b off (xs ++ [(st.tm f.y).weak]) := (hrow.mono p5.le).append (RepRow.of_flat (vs := us) (fun x hx => by simp at hx; subst hx; exact hyl') (by simpa using hyL.mono p5.le) (fun j hj => by simpa using p6 j hj))
      have hfit : off + xs.length * s' + s' ≤ cur.size := by omega
      have s1 := store_row (P := P) (q := off + xs.length * s') hblk (us := flat) (by omega) hzcells
      have s2 := store_row (P := P) (q := off + xs.length * s') hblk (us := us) (by omega) hucells
      rw [s2] at p1
      injection p1 with _ p1
      have hlenA : (xs ++ [(st.tm f.y).weak]).length = xs.length + 1 := by simp
      have hzz : ((cur.toList.take (off + xs.length * s') ++ flat ++ cur.toList.drop (off + xs.length * s' + flat.length)).toArray).size = cur.size := by
        simp; omega
      refine ⟨.slice (some ⟨b, off, none⟩) (xs.length + 1) c, rowSet w b ty (cur.toList.take (off + xs.length * s') ++ flat ++ cur.toList.drop (off + xs.length * s' + flat.length)).toArray, w2, H2, b, off + xs.length * us.length, ty, (cur.toList.take (off + xs.length * s') ++ flat ++ cur.toList.drop (off + xs.length * s' + flat.length)).toArray, (cur.toList.take (off + xs.length * s') ++ us ++ cur.toList.drop (off + xs.length * s' + us.length)).toArray, ?_,
        out_rel p2 (.two _ _ (.one _ _ ?_)) (fun sz' xs' b' off' n c' q1 q2 => ?_), p5, ⟨⟨off, xs.length, c, .i64, us, e, ie, it, tm8 _, ?_, ?_, ?_, hie, by rw [hies, husl], hit, by rw [hits, htjs, husl], rfl⟩, fun h => h.elim, rowSet_at hblk, ?_, fun w3 h3 => ?_, ?_⟩⟩
      · rw [(hap _ _ ex).1 hle]
        simp only [addr_add]
        rw [s1]
        rfl
      · have := Rep1.own (μ := μ) s' (xs ++ [(st.tm f.y).weak]) b off c hrow2 (by simp; omega)
        rw [hlenA] at this
        exact this
      · simp only [V.own.injEq] at q1
        obtain ⟨rfl, rfl⟩ := q1
        simp only [Value.slice.injEq, Option.some.injEq, Addr.mk.injEq] at q2
        obtain ⟨⟨rfl, rfl, _⟩, rfl, rfl⟩ := q2
        refine ⟨?_, p4⟩
        have he : off + xs.length * s' + 0 + us.length = off + (xs.length + 1) * s' := by rw [husl, Nat.succ_mul]; omega
        rw [← he]
        exact p3
      · rw [tmv _ _ hn8]; exact hnv
      · rw [tmv _ _ hy8]; exact hus
      · rw [ht9]; exact hu
      · rw [← p1, rowSet_set]
      · rw [tmv _ _ hy8, hus, husl]
        have := store_row (P := P) (q := off + xs.length * s') h3 (us := us) (by rw [hzz]; omega) hucells
        rw [this]
        congr 2
        apply Array.ext'
        simp only [Array.toList_append]
        have hA : (cur.toList.take (off + xs.length * s')).length = off + xs.length * s' := by simp; omega
        rw [List.append_assoc, List.append_assoc, List.append_assoc, List.take_left' hA, ← List.append_assoc (cur.toList.take _) flat, List.drop_left' (by rw [List.length_append, hA, hfl, husl])]
        rw [hfl]
      · rw [husl]
        exact RepRow.last hrow2 hs0
    · obtain ⟨old, q1, q2, q3, q4⟩ := hrow.flat
      refine hgrow _ _ ex hle q2 old (fun w' hw' => ?_) q1 q3
      simp only [Builtin.firstCells]
      exact loadCells_run (fun j hj => by rw [cell?_eq (w := w) (w' := w') (by rw [hw'])]; exact hr.heap _ _ _ (q4 j hj)) (by omega)
/-! #### what may be done meanwhile -/
theorem rowSet_setCell {w : World} {b bu k : Nat} {ty : TypeId} {vs' : Array Value} (hne : bu ≠ b) (u : Value) : (rowSet w b ty vs').setCell ⟨bu, k, none⟩ u = rowSet (w.setCell ⟨bu, k, none⟩ u) b ty vs' := by
  unfold World.setCell rowSet
  congr 1
  apply Array.ext_getElem?
  intro i
  simp only [Array.getElem?_modify, Array.getElem?_setIfInBounds, Array.size_modify]
  by_cases h1 : bu = i
  · subst h1
    simp [Ne.symm hne]
  · simp [h1]
theorem storeCells_other {b bu off : Nat} {ty : TypeId} {vs' : Array Value} (hne : bu ≠ b) : ∀ (us : List Value) (i : Nat) {w w1s : World} {vsu : Array Value} {tyu : TypeId}, w.heap[bu]? = some (.cells vsu tyu (0, 0)) →
    off + i + us.length ≤ vsu.size → (storeCells ⟨bu, off, none⟩ us i).run P (rowSet w b ty vs') = .ok () w1s →
    ∃ w1, (storeCells ⟨bu, off, none⟩ us i).run P w = .ok () w1 ∧ w1s = rowSet w1 b ty vs' ∧ w1.heap[b]? = w.heap[b]?
  | [], i, w, w1s, vsu, tyu, hb, hl, h => by
    simp [storeCells] at h ⊢
    exact h.symm
  | u :: us, i, w, w1s, vsu, tyu, hb, hl, h => by
    have hlt : off + i < vsu.size := by simp at hl; omega
    have hc : w.cell? ⟨bu, off + i, none⟩ = some vsu[off + i] := by rw [cell?_of hb]; exact Array.getElem?_eq_getElem hlt
    have hb' : (rowSet w b ty vs').heap[bu]? = some (.cells vsu tyu (0, 0)) := by rw [rowSet_ne hne]; exact hb
    have hc' : (rowSet w b ty vs').cell? ⟨bu, off + i, none⟩ = some vsu[off + i] := by rw [cell?_of hb']; exact Array.getElem?_eq_getElem hlt
    have hf : w.frozen? ⟨bu, off + i, none⟩ = false := by simp [World.frozen?, hb]
    have hf' : (rowSet w b ty vs').frozen? ⟨bu, off + i, none⟩ = false := by simp [World.frozen?, hb']
    cases hu : cellV u with
    | false =>
      exfalso
      cases u <;> simp [cellV] at hu
      · rw [storeCells] at h
        simp only [Sem.run_bind] at h
        simp [store, Sem.run, Result.andThen] at h
      · rw [storeCells] at h
        simp only [Sem.run_bind] at h
        simp [store, Sem.run, Result.andThen] at h
    | true =>
      rw [storeCells] at h ⊢
      simp only [Sem.run_bind, addr_add, run_store _ _ _ _ _ (cellV_one hu), hc', hf', hc, hf, Bool.false_eq_true, if_false, Result.andThen_ok] at h ⊢
      rw [rowSet_setCell hne] at h
      have hb2 : (w.setCell ⟨bu, off + i, none⟩ u).heap[bu]? = some (.cells (vsu.setIfInBounds (off + i) u) tyu (0, 0)) := by
        unfold World.setCell
        simp [Array.getElem?_modify, hb]
      obtain ⟨w1, g1, g2, g3⟩ := storeCells_other hne us (i + 1) hb2 (by simp at hl ⊢; omega) h
      refine ⟨w1, g1, g2, g3.trans ?_⟩
      exact setCell_heap _ _ _ _ _ (Ne.symm hne)
theorem quiet_step (hT : TabOk P T) {C : Orc} {ops : List Oper} {o : Oper} (hq : quiet o = true) (hF : opF T M o = opN T M o) {st : St} {ws : List Wr} {H : Heap} {μ : Oid → Option Nat} {a : Act} {w w' : World} {b q : Nat} {ty : TypeId} {vs vs' : Array Value}
    (hs : stepW C T M ops o st ws) (hat : AtS H μ F st a w' n D) (hd : ∀ d, o.dst = some d → d < n) (hw : w' = rowSet w b ty vs') (hb : w.heap[b]? = some (.cells vs ty (0, 0))) (hH : H b q ≠ none) :
    o.guard = none ∧ ∃ v w1 H' μ', ((execOp a.eval o).run P w = .ok (.value v) w1 ∨ (execOp a.eval o).run P w = .ok .skip w1 ∧ v = undef) ∧ AtS H' μ' F (st.app ws) (a.put o.dst v) (rowSet w1 b ty vs') n D ∧ Ext F H w' H' (rowSet w1 b ty vs') ∧ w1.heap[b]? = w.heap[b]? := by
  unfold quiet at hq
  simp only [Bool.and_eq_true, Option.isNone_iff_eq_none] at hq
  obtain ⟨hg, hq⟩ := hq
  refine ⟨hg, ?_⟩
  have hr := hat.rel
  have hρ := env_of a
  have hop : (opN T M o).run st = some (.ws ws) := by
    unfold stepW at hs
    have hwt : (wanted ops o).run st = some (some true) := by simp [wanted, hg, Rd.run]
    rw [hwt, hF] at hs
    simp only at hs
    split at hs
    · rename_i l hl
      rw [hl, hs]
    · rename_i f args objs nw way hl
      exfalso
      unfold opN at hl
      split at hl <;> rename_i ho <;> first
        | (rw [ho] at hq; simp at hq; done)
        | skip
      replace hl := rd_bind _ _ _ hl
      obtain ⟨⟨l⟩, _, hl⟩ := hl
      have := rd_pure hl
      cases this
    · exact hs.elim
    · exact hs.elim
  have hopS : (opS T M o).run st = some (.ws ws) := by
    unfold opN at hop
    split at hop <;> rename_i ho <;> first
      | (rw [ho] at hq; simp at hq; done)
      | skip
    replace hop := rd_bind _ _ _ hop
    obtain ⟨⟨l⟩, hl, hop⟩ := hop
    have := rd_pure hop
    injection this with this
    subst this
    exact hl
  split at hq
  · -- nilCheck
    rename_i x ho
    unfold opS at hopS
    rw [ho] at hopS
    obtain ⟨va, ha, h⟩ := rd_bind _ _ _ hopS
    have hra := ev_rep hr hρ ha
    split at h
    · have := rd_pure h
      injection this with this
      subst this
      obtain ⟨bb, _, e⟩ := hra.ref
      refine ⟨a.eval x, w, H, μ, .inl (by simp [execOp, ho, e]), ?_, ?_, rfl⟩
      · exact hw ▸ hat.put hd (out_rel' hr hra rfl)
      · rw [← hw]; exact Ext.refl _ _ _
    · have := rd_pure h
      injection this with this
      subst this
      obtain ⟨_, bb, o0, e, _⟩ := hra.eptr
      refine ⟨a.eval x, w, H, μ, .inl (by simp [execOp, ho, e]), ?_, ?_, rfl⟩
      · exact hw ▸ hat.put hd (out_rel' hr hra rfl)
      · rw [← hw]; exact Ext.refl _ _ _
    · simp [Rd.run] at h
  · -- fieldAddr
    rename_i s x f ho
    unfold opS at hopS
    rw [ho] at hopS
    obtain ⟨ti, hti, h⟩ := rd_bind _ _ _ hopS
    have hti := hT _ _ (rd_rOpt hti)
    obtain ⟨va, ha, h⟩ := rd_bind _ _ _ h
    obtain ⟨⟨off, sz⟩, hoff, h⟩ := rd_bind _ _ _ h
    have hoff := rd_rOpt hoff
    have hra := ev_rep hr hρ ha
    dsimp only at h
    split at h
    · have := rd_pure h
      injection this with this
      subst this
      obtain ⟨bb, hbb, e⟩ := hra.ref
      refine ⟨_, w, H, μ, .inl (by simp only [execOp, ho, e, Sem.run_bind, run_fieldAt hti hoff]; rfl), ?_, ?_, rfl⟩
      · exact hw ▸ hat.put hd (out_rel' hr (.two _ _ (.one _ _ (.ref _ _ _ hbb))) rfl)
      · rw [← hw]; exact Ext.refl _ _ _
    · have := rd_pure h
      injection this with this
      subst this
      obtain ⟨us, bb, o0, e, h1, h2⟩ := hra.eptr
      refine ⟨.pointer (some ⟨bb, o0 + (_ + off), none⟩), w, H, μ, .inl (by simp only [execOp, ho, e, Sem.run_bind, run_fieldAt hti hoff, Nat.add_assoc]; rfl), ?_, ?_, rfl⟩
      · exact hw ▸ hat.put hd (out_rel' hr (.two _ _ (.one _ _ (.eptr _ _ _ _ _ h1 h2))) rfl)
      · rw [← hw]; exact Ext.refl _ _ _
    · simp [Rd.run] at h
  · -- store
    rename_i t x y ho
    have hdst : o.dst = none := by simpa using hq
    obtain ⟨H1, μ1, w1s, u, v, h1, h2, h3, h4⟩ := good_store hT hr hρ ho hopS
    -- where it is stored
    have hpl : ∃ ti uo off row cs, T t = some ti ∧ (ev x).run st = some (.ref uo off) ∧ st.ob uo = some (.cells row cs) ∧ off + ti.size ≤ cs.length := by
      unfold opS at hopS
      rw [ho] at hopS
      obtain ⟨ti, hti, h⟩ := rd_bind _ _ _ hopS
      have hti' := rd_rOpt hti
      obtain ⟨va, ha, h⟩ := rd_bind _ _ _ h
      obtain ⟨vv, hv, h⟩ := rd_bind _ _ _ h
      split at h
      · rename_i uo off hxx
        simp only [Rd.run] at h
        split at h
        · rename_i row cs hob
          split at h
          · rename_i sz qo hns
            obtain ⟨_, _, _, hcell⟩ := nilSl_some hns
            obtain ⟨_, _, h⟩ := rd_bind _ _ _ h
            simp only [Rd.run] at h
            split at h
            · split at h
              · rename_i hc
                have := (List.getElem?_eq_some_iff.1 hcell).1
                exact ⟨ti, uo, off, row, cs, hti', ha, hob, by omega⟩
              · simp [Rd.run] at h
            · simp [Rd.run] at h
          · split at h
            · rename_i hc
              exact ⟨ti, uo, off, row, cs, hti', ha, hob, by omega⟩
            · simp [Rd.run] at h
        · simp [Rd.run] at h
      · simp [Rd.run] at h
    obtain ⟨ti, uo, off, row, cs, hti, hev, hob, hle⟩ := hpl
    have hti := hT _ _ hti
    obtain ⟨i, z, g1, g2, _⟩ := hti.info
    obtain ⟨bu, hbu, e⟩ := (ev_rep hr hρ hev).ref
    obtain ⟨vsu, tyu, hblk, hrep, _⟩ := hr.cellsAt hob hbu
    have hlen := hrep.length
    rw [List.length_take] at hlen
    have hne : bu ≠ b := fun e' => hH (by rw [← e']; exact hr.objH uo bu (hr.cellsLive hob hbu) q)
    rw [hw, rowSet_ne hne] at hblk
    simp only [execOp, ho, e, Instr.storeAt, Instr.sureAddr, Sem.run_bind, Sem.run_pure, Result.andThen_ok, storeVar, runSize g1] at h1 ⊢
    by_cases hsz : (a.eval y).cells.size = i.size
    · simp only [hsz, ne_eq, not_true_eq_false, if_false] at h1 ⊢
      rw [hw] at h1
      cases hsc : (storeCells ⟨bu, off, none⟩ (a.eval y).cells.toList).run P (rowSet w b ty vs') with
      | halt hh ww => rw [hsc] at h1; simp [Result.andThen] at h1
      | ok r ww =>
        rw [hsc] at h1
        simp only [Result.andThen_ok, Result.ok.injEq] at h1
        obtain ⟨rfl, rfl⟩ := h1
        obtain ⟨w1, k1, k2, k3⟩ := storeCells_other (P := P) hne (a.eval y).cells.toList 0 hblk (by simp at hlen ⊢; omega) hsc
        have hv : v = undef := by rcases h2 with h2 | ⟨_, h2⟩; cases h2; exact h2
        subst hv
        refine ⟨undef, w1, H1, μ1, .inr ⟨by rw [k1]; rfl, rfl⟩, ?_, ?_, k3⟩
        · rw [← k2]; exact hat.put hd h3
        · rw [← k2]; exact h4
    · simp [hsz, stuck] at h1
  · simp at hq
theorem maskOf_bit (acc : List Nat) (c : Nat) : ∀ l : List Nat, (maskOf acc l).testBit c = true ↔ ∃ e ∈ l, c = e ∨ (acc.getD e 0).testBit c = true
  | [] => by simp [maskOf]
  | e :: r => by
    simp only [maskOf, Nat.testBit_or, Nat.testBit_two_pow, Bool.or_eq_true, decide_eq_true_eq, maskOf_bit acc c r, List.mem_cons, exists_eq_or_imp, eq_comm (a := c)]
theorem closGo_mem (o : Oper) (acc : List (List Nat)) (c : Nat) : c ∈ ((o.after.toList.filter (fun e => Region.binds .any e)).flatMap fun e => e.on :: acc.getD e.on []) ↔ ∃ e ∈ binding o, c = e ∨ c ∈ acc.getD e [] := by
  simp only [List.mem_flatMap, List.mem_cons, binding, List.mem_map]
  constructor
  · rintro ⟨e, h1, h2⟩; exact ⟨e.on, ⟨e, h1, rfl⟩, h2⟩
  · rintro ⟨_, ⟨e, h1, rfl⟩, h2⟩; exact ⟨e, h1, h2⟩
theorem getD_snoc {α : Type} (l : List α) (x d : α) (i : Nat) : (l ++ [x]).getD i d = if i = l.length then x else l.getD i d := by
  simp only [List.getD_eq_getElem?_getD]
  split
  · rename_i h; subst h; simp
  · rename_i h
    by_cases hi : i < l.length
    · rw [List.getElem?_append_left hi]
    · rw [List.getElem?_eq_none (by simp; omega), List.getElem?_eq_none (by omega)]
theorem masks_eq : ∀ (ops : List Oper) (acc : List (List Nat)) (accM : List Nat), acc.length = accM.length → (∀ i c, c ∈ acc.getD i [] ↔ (accM.getD i 0).testBit c = true) →
    ∀ i c, c ∈ (closGo ops acc).getD i [] ↔ ((masksGo ops accM).getD i 0).testBit c = true
  | [], acc, accM, _, h => h
  | o :: r, acc, accM, hl, h => by
    simp only [closGo, masksGo]
    refine masks_eq r _ _ (by simp [hl]) fun i c => ?_
    rw [getD_snoc, getD_snoc, hl]
    split
    · rw [closGo_mem, maskOf_bit]
      simp only [h]
    · exact h i c
/-- Whatever order is drawn, the end is alike: for whatever is kept from step to step. -/
theorem draw_gen {C0 : Orc} {ops : List Oper} {K : Exit → Act → World → Prop} {R : Nat → List Wr × List Wh} {fs : List Foot}
    (hok : orderOk M ops fs = true) (hfs : ∀ i, i < ops.length → fs.getD i ⟨[], []⟩ = foot R i) {st' : St} (Inv : Array Bool → St → Act → World → Prop)
    (hK : ∀ listed stE a w, (∀ j, j < ops.length → listed.getD j true = true) → Alike stE st' → Inv listed stE a w → K .normal a w)
    (hstep : ∀ (listed : Array Bool) (st : St) (a : Act) (w : World) (i : Nat) (o : Oper) (K' : Act → World → Prop), i < ops.length → ops[i]? = some o → listed.getD i true = false → listed.size = ops.length →
      (∀ c ∈ (clos ops).getD i [], listed.getD c true = true) → (∀ j, j < ops.length → listed.getD j true = true → ∀ c ∈ (clos ops).getD j [], listed.getD c true = true) →
      stepW C0 T M ops o st (R i).1 → Inv listed st a w → (∀ a' w', Inv (listed.setIfInBounds i true) (st.app (R i).1) a' w' → K' a' w') → wpOp P ops.toArray K i K' a w) :
    ∀ (fuel : Nat) (listed : Array Bool) (C : List Nat) (st : St) (a : Act) (w : World), listed.size = ops.length →
      C = (List.range ops.length).filter (fun j => !listed.getD j true) → C.length = fuel → RunL C0 T M ops R C st st' → Inv listed st a w →
      (∀ j, j < ops.length → listed.getD j true = true → ∀ c ∈ (clos ops).getD j [], listed.getD c true = true) →
      wpAny P .any ops.toArray K fuel listed a w := by
  have hok' : ∀ i (hi : i < ops.length), (∀ e ∈ binding ops[i], e < i) ∧ (∀ c ∈ (clos ops).getD i [], ∃ e ∈ binding ops[i], c = e ∨ c ∈ (clos ops).getD e []) ∧
      ∀ c, c < i → (foot R c).clash (foot R i) = true → freeAt M ops c i = true ∨ c ∈ (clos ops).getD i [] := by
    intro i hi
    simp only [orderOk, Bool.and_eq_true] at hok
    have := List.all_eq_true.1 hok.2 (ops[i], i) (by rw [List.mem_zipIdx_iff_getElem?]; simp [hi])
    simp only [Bool.and_eq_true, List.all_eq_true, decide_eq_true_eq, List.any_eq_true, Bool.or_eq_true, beq_iff_eq, Bool.not_eq_true', List.mem_range, List.contains_iff_mem] at this
    obtain ⟨⟨h1, h2⟩, h3⟩ := this
    refine ⟨h1, h2, fun c hc hcl => ?_⟩
    rcases h3 c hc with (h | h) | h
    · rw [hfs c (by omega), hfs i hi, hcl] at h
      simp at h
    · exact .inr h
    · exact .inl h
  intro fuel
  induction fuel with
  | zero =>
    intro listed C st a w hls hC hlen hrun hinv hcl
    have hC0 : C = [] := List.eq_nil_of_length_eq_zero hlen
    subst hC0
    have : ∀ j, j < ops.length → listed.getD j true = true := by
      intro j hj
      have := List.filter_eq_nil_iff.1 hC.symm j (by simpa using hj)
      simpa using this
    refine ⟨?_, hK listed st a w this hrun hinv⟩
    refine List.filter_eq_nil_iff.2 fun j hj => ?_
    simp at hj
    simp [this j hj]
  | succ fuel ih =>
    intro listed C st a w hls hC hlen hrun hinv hcl
    have hmem : ∀ j, j ∈ C ↔ j < ops.length ∧ listed.getD j true = false := by
      intro j
      rw [hC]
      simp
    have hready : ∀ i, i ∈ Region.ready .any ops.toArray listed ↔ ∃ hi : i < ops.length, listed.getD i true = false ∧ ∀ e ∈ binding ops[i], listed.getD e false = true := by
      intro i
      simp only [Region.ready, List.mem_filter, List.mem_range, List.size_toArray, Bool.and_eq_true, Bool.not_eq_true']
      constructor
      · rintro ⟨hi, h1, h2⟩
        refine ⟨hi, h1, fun e he => ?_⟩
        simp only [binding, List.mem_map, List.mem_filter] at he
        obtain ⟨ed, ⟨he1, he2⟩, rfl⟩ := he
        simp only [List.getElem?_toArray, List.getElem?_eq_getElem hi, Option.map_some, Option.getD_some] at h2
        have := Array.all_eq_true_iff_forall_mem.1 h2 ed (by simpa using he1)
        simpa [he2] using this
      · rintro ⟨hi, h1, h2⟩
        refine ⟨hi, h1, ?_⟩
        simp only [List.getElem?_toArray, List.getElem?_eq_getElem hi, Option.map_some, Option.getD_some]
        refine Array.all_eq_true_iff_forall_mem.2 fun ed he => ?_
        by_cases hb : Region.binds .any ed = true
        · have := h2 ed.on (by simp only [binding, List.mem_map, List.mem_filter]; exact ⟨ed, ⟨by simpa using he, hb⟩, rfl⟩)
          simp [this]
        · simp [hb]
    refine ⟨fun hnil => ?_, fun i hi => ?_⟩
    · -- the least that is left is ready
      exfalso
      cases hc : C with
      | nil => rw [hc] at hlen; simp at hlen
      | cons c0 C' =>
        have hc0 : c0 ∈ C := by rw [hc]; simp
        obtain ⟨hlt, hun⟩ := (hmem c0).1 hc0
        have hmin : ∀ j, j < c0 → listed.getD j false = true := by
          intro j hj
          have hjlt : j < ops.length := by omega
          have hsorted : C.Pairwise (· < ·) := by rw [hC]; exact List.Pairwise.filter _ List.pairwise_lt_range
          by_cases hl : listed.getD j true = true
          · rw [Array.getD_eq_getD_getElem?, Array.getElem?_eq_getElem (by omega)] at hl ⊢
            exact hl
          · exfalso
            have hjm : j ∈ C := (hmem j).2 ⟨hjlt, by simpa using hl⟩
            rw [hc] at hjm hsorted
            rcases List.mem_cons.1 hjm with rfl | hjm
            · omega
            · have := (List.pairwise_cons.1 hsorted).1 j hjm
              omega
        have : c0 ∈ Region.ready .any ops.toArray listed := (hready c0).2 ⟨hlt, hun, fun e he => hmin e ((hok' c0 hlt).1 e he)⟩
        rw [hnil] at this
        simp at this
    · obtain ⟨hlt, hun, hall⟩ := (hready i).1 hi
      have him : i ∈ C := (hmem i).2 ⟨hlt, hun⟩
      obtain ⟨C1, C2, hsplit⟩ := List.append_of_mem him
      have hsorted : C.Pairwise (· < ·) := by rw [hC]; exact List.Pairwise.filter _ List.pairwise_lt_range
      have hC1 : ∀ c ∈ C1, c < i ∧ listed.getD c true = false := by
        intro c hc
        rw [hsplit] at hsorted
        exact ⟨(List.pairwise_append.1 hsorted).2.2 c hc i (by simp), ((hmem c).1 (by rw [hsplit]; simp [hc])).2⟩
      have hlt' : ∀ e : Nat, listed.getD e false = true → listed.getD e true = true := by
        intro e he
        rw [Array.getD_eq_getD_getElem?] at he ⊢
        cases hq : listed[e]? with
        | none => rfl
        | some q => rw [hq] at he; exact he
      have hlist : ∀ c ∈ (clos ops).getD i [], listed.getD c true = true := by
        intro c hc
        obtain ⟨e, he, h⟩ := (hok' i hlt).2.1 c hc
        have hle := hlt' e (hall e he)
        rcases h with rfl | h
        · exact hle
        · have : e < ops.length := by have := (hok' i hlt).1 e he; omega
          exact hcl e this hle c h
      have hno : ∀ c ∈ C1, (foot R c).clash (foot R i) = false ∨ freeAt M ops c i = true := by
        intro c hc
        obtain ⟨h1, h2⟩ := hC1 c hc
        cases hq : (foot R c).clash (foot R i) with
        | false => exact .inl rfl
        | true =>
          rcases (hok' i hlt).2.2 c h1 hq with h | h
          · exact .inr h
          · have := hlist c h
            rw [h2] at this
            simp at this
      rw [hsplit] at hrun
      obtain ⟨o, g1, g2, g3, g4⟩ := RunL.front C1 hno hrun
      have hoe : o = ops[i] := by rw [List.getElem?_eq_getElem hlt] at g1; injection g1 with g1; exact g1.symm
      refine hstep listed st a w i o _ hlt g1 hun hls hlist hcl g2 hinv fun a' w' hinv' => ?_
      have hset : ∀ j, (listed.setIfInBounds i true).getD j true = if j = i then true else listed.getD j true := by
        intro j
        simp only [Array.getD_eq_getD_getElem?, Array.getElem?_setIfInBounds]
        by_cases e : i = j
        · subst e; simp [show i < listed.size by omega]
        · simp [e, Ne.symm e]
      refine ih (listed.setIfInBounds i true) (C1 ++ C2) (st.app (R i).1) a' w' (by simpa using hls) ?_ ?_ g4 hinv' ?_
      · have hnd : C.Nodup := hsorted.imp (fun h => Nat.ne_of_lt h)
        have h1 : (List.range ops.length).filter (fun j => !(listed.setIfInBounds i true).getD j true) = C.filter (fun j => decide (j ≠ i)) := by
          rw [hC, List.filter_filter]
          refine List.filter_congr fun j hj => ?_
          rw [hset]
          by_cases e : j = i <;> simp [e]
        rw [h1, hsplit, List.filter_append, List.filter_cons]
        simp only [ne_eq, not_true_eq_false, decide_false, Bool.false_eq_true, if_false]
        rw [hsplit] at hnd
        have hni := List.nodup_append.1 hnd
        rw [List.filter_eq_self.2, List.filter_eq_self.2]
        · intro c hc
          have := (List.nodup_cons.1 hni.2.1).1
          simp
          rintro rfl
          exact this hc
        · intro c hc
          have := hni.2.2 c hc i (by simp)
          simpa using this
      · rw [hsplit] at hlen
        simp at hlen ⊢
        omega
      · intro j hj hl c hc
        rw [hset] at hl ⊢
        by_cases e : j = i
        · subst e
          split
          · rfl
          · exact hlist c hc
        · rw [if_neg e] at hl
          have := hcl j hj hl c hc
          split
          · rfl
          · exact this
structure FuS (f : Fu) (ops : List Oper) (i j k : Nat) : Prop where
  oi : ∃ o, ops[i]? = some o ∧ o.guard = none
  oj : ∃ o, ops[j]? = some o ∧ o.guard = none ∧ o.op = .indexAddr f.t9 (.tmp f.d8) (.tmp f.n)
  ok : ∃ o, ops[k]? = some o ∧ o.guard = none ∧ o.dst = none ∧ o.op = .store f.te (.tmp f.d9) (.tmp f.y)
  ij : i ∈ (clos ops).getD j []
  jk : j ∈ (clos ops).getD k []
  d : f.d8 ≠ f.d9 ∧ f.n ≠ f.d8 ∧ f.n ≠ f.d9 ∧ f.y ≠ f.d8 ∧ f.y ≠ f.d9
  role : ∀ m o, ops[m]? = some o → (fuRole f o = 1 ↔ m = i) ∧ (fuRole f o = 2 ↔ m = j) ∧ (fuRole f o = 3 ↔ m = k)
  rest : ∀ m o, ops[m]? = some o → m = i ∨ m = j ∨ m = k ∨ m ∈ (clos ops).getD i [] ∨ k ∈ (clos ops).getD m [] ∨ quiet o = true
  dn : ∀ m o, ops[m]? = some o → o.dst = some f.n ∨ o.dst = some f.y → m ∈ (clos ops).getD i []
theorem fuS_of {f : Fu} {ops : List Oper} (h : fuOk f ops = true) : ∃ i j k, FuS f ops i j k := by
  have hcl : ∀ i c, c ∈ (clos ops).getD i [] ↔ ((masks ops).getD i 0).testBit c = true := masks_eq ops [] [] rfl (by simp)
  unfold fuOk at h
  simp only [Bool.and_eq_true, bne_iff_ne, ne_eq, List.all_eq_true] at h
  obtain ⟨⟨⟨⟨⟨⟨⟨⟨⟨⟨h1, h2⟩, h3⟩, h4⟩, h5⟩, d1⟩, d2⟩, d3⟩, d4⟩, d5⟩, h6⟩ := h
  refine ⟨_, _, _, ?_, ?_, ?_, (hcl _ _).2 h4, (hcl _ _).2 h5, ⟨d1, d2, d3, d4, d5⟩, fun m o hm => ?_, fun m o hm => ?_, fun m o hm hd => ?_⟩
  · split at h1
    · rename_i o ho
      exact ⟨o, ho, by simpa using h1⟩
    · simp at h1
  · split at h2
    · rename_i o ho
      simp only [Bool.and_eq_true, Option.isNone_iff_eq_none] at h2
      refine ⟨o, ho, h2.1, ?_⟩
      have h2' := h2.2
      split at h2'
      · rename_i t a b hop
        simp only [Bool.and_eq_true, beq_iff_eq] at h2'
        obtain ⟨⟨rfl, rfl⟩, rfl⟩ := h2'
        exact hop
      · simp at h2'
    · simp at h2
  · split at h3
    · rename_i o ho
      simp only [Bool.and_eq_true, Option.isNone_iff_eq_none] at h3
      refine ⟨o, ho, h3.1.1, h3.1.2, ?_⟩
      have h3' := h3.2
      split at h3'
      · rename_i t a b hop
        simp only [Bool.and_eq_true, beq_iff_eq] at h3'
        obtain ⟨⟨rfl, rfl⟩, rfl⟩ := h3'
        exact hop
      · simp at h3'
    · simp at h3
  all_goals
    have hx := h6 (o, m) (by rw [List.mem_zipIdx_iff_getElem?]; exact hm)
    simp only [Bool.and_eq_true, beq_iff_eq, Bool.or_eq_true] at hx
    obtain ⟨⟨⟨⟨r1, r2⟩, r3⟩, r4⟩, r5⟩ := hx
  · refine ⟨?_, ?_, ?_⟩
    · rw [Bool.eq_iff_iff] at r1; simpa using r1
    · rw [Bool.eq_iff_iff] at r2; simpa using r2
    · rw [Bool.eq_iff_iff] at r3; simpa using r3
  · rcases r4 with ((((r4 | r4) | r4) | r4) | r4) | r4
    · exact .inl r4
    · exact .inr (.inl r4)
    · exact .inr (.inr (.inl r4))
    · exact .inr (.inr (.inr (.inl ((hcl _ _).2 r4))))
    · exact .inr (.inr (.inr (.inr (.inl ((hcl _ _).2 r4)))))
    · exact .inr (.inr (.inr (.inr (.inr r4))))
  · rcases r5 with r5 | r5
    · exfalso
      rcases hd with hd | hd <;> simp [hd] at r5
    · exact (hcl _ _).2 r5
theorem draw_soundF {f : Fu} (hM : M.fu = some f) (hT : TabOk P T) {ops : List Oper} (hfu : fuOk f ops = true) (hd : ∀ o ∈ ops, ∀ d, o.dst = some d → d < n) {K : Exit → Act → World → Prop} {R : Nat → List Wr × List Wh} {fs : List Foot}
    (hok : orderOk M ops fs = true) (hfs : ∀ i, i < ops.length → fs.getD i ⟨[], []⟩ = foot R i) {st' : St} {H0 : Heap} {w0 : World}
    (hK : ∀ stE a' w' H' μ', Alike stE st' → AtS H' μ' F stE a' w' n D → Ext F H0 w0 H' w' → K .normal a' w')
    (fuel : Nat) (listed : Array Bool) (C : List Nat) (st : St) (a : Act) (w : World) (H : Heap) (μ : Oid → Option Nat) (hls : listed.size = ops.length)
    (hC : C = (List.range ops.length).filter (fun j => !listed.getD j true)) (hlen : C.length = fuel) (hrun : RunL (COk P F.B) T M ops R C st st') (hat : AtS H μ F st a w n D) (hx : Ext F H0 w0 H w)
    (hnone : ∀ j, j < ops.length → listed.getD j true = false) :
    wpAny P .any ops.toArray K fuel listed a w := by
  obtain ⟨i, j, k, S⟩ := fuS_of hfu
  have hil : i < ops.length := by obtain ⟨o, ho, _⟩ := S.oi; exact (List.getElem?_eq_some_iff.1 ho).1
  have hjl : j < ops.length := by obtain ⟨o, ho, _⟩ := S.oj; exact (List.getElem?_eq_some_iff.1 ho).1
  have hkl : k < ops.length := by obtain ⟨o, ho, _⟩ := S.ok; exact (List.getElem?_eq_some_iff.1 ho).1
  let Inv : Array Bool → St → Act → World → Prop := fun listed st a w => ∃ H μ ws, AtS H μ F st a ws n D ∧ Ext F H0 w0 H ws ∧
    ((listed.getD i true = true ∧ listed.getD k true = false ∧ ∃ b q ty vs vs', Pnd P f (listed.getD j true = true) H (tmOf a) w ws b q ty vs vs') ∨ (¬ (listed.getD i true = true ∧ listed.getD k true = false) ∧ ws = w))
  refine draw_gen (C0 := COk P F.B) (T := T) hok hfs (st' := st') Inv ?_ ?_ fuel listed C st a w hls hC hlen hrun ⟨H, μ, w, hat, hx, .inr ⟨fun h => ?_, rfl⟩⟩ (fun m hm hl => ?_)
  · rintro listed stE a w hall hal ⟨H, μ, ws, hat, hx, h⟩
    rcases h with ⟨_, h, _⟩ | ⟨_, rfl⟩
    · rw [hall k hkl] at h; cases h
    · exact hK stE a ws H μ hal hat hx
  rotate_left
  · rw [hnone i hil] at h; cases h.1
  · rw [hnone m hm] at hl; cases hl
  -- one step
  rintro listed st a w m o K' hm ho hun hls hpre hcl hs ⟨H, μ, ws, hat, hx, hinv⟩ hK'
  have hdo : ∀ d, o.dst = some d → d < n := hd o (List.mem_of_getElem? ho)
  have hset : ∀ q, (listed.setIfInBounds m true).getD q true = if q = m then true else listed.getD q true := by
    intro q
    simp only [Array.getD_eq_getD_getElem?, Array.getElem?_setIfInBounds]
    by_cases e : m = q
    · subst e; simp [show m < listed.size by omega]
    · simp [e, Ne.symm e]
  have hkj : listed.getD k true = true → listed.getD j true = true := fun h => hcl k hkl h j S.jk
  have hji : listed.getD j true = true → listed.getD i true = true := fun h => hcl j hjl h i S.ij
  obtain ⟨hr1, hr2, hr3⟩ := S.role m o ho
  have hopF : opF T M o = fuD T M f o (fuRole f o) := by simp only [opF, hM]
  have tmput : ∀ (v : Value) (t : Nat), o.dst ≠ some t → tmOf (a.put o.dst v) t = tmOf a t := by
    intro v t ht
    rw [tmOf_put a o.dst v (by rw [hat.size]; exact hdo)]
    cases hdd : o.dst with
    | none => rfl
    | some d =>
      have : t ≠ d := fun e => ht (by rw [hdd, e])
      simp [after, upd, this]
  have hwp : ∀ (hg : o.guard = none) (v : Value) (w1 : World), ((execOp a.eval o).run P w = .ok (.value v) w1 ∨ (execOp a.eval o).run P w = .ok .skip w1 ∧ v = undef) → K' (a.put o.dst v) w1 → wpOp P ops.toArray K m K' a w := by
    intro hg v w1 h1 hk
    unfold wpOp
    have ho' : ops.toArray[m]? = some o := by simpa using ho
    rw [ho']
    dsimp only
    have hwant : Region.wanted o (yielded ops.toArray a.tmps) = true := by simp [Region.wanted, hg]
    rw [if_pos hwant]
    left
    unfold Oper.wp
    rcases h1 with h1 | ⟨h1, rfl⟩
    · rw [h1]; exact hk
    · rw [h1]; exact hk
  by_cases hmi : m = i
  · -- the append
    subst hmi
    have hrole := hr1.2 rfl
    obtain ⟨o', ho', hg⟩ := S.oi
    rw [ho] at ho'
    injection ho' with ho'
    subst ho'
    have hnk : listed.getD k true = false := by
      cases h : listed.getD k true with
      | false => rfl
      | true => rw [hji (hkj h)] at hun; cases hun
    have hnj : listed.getD j true = false := by
      cases h : listed.getD j true with
      | false => rfl
      | true => rw [hji h] at hun; cases hun
    rcases hinv with ⟨h, _⟩ | ⟨_, rfl⟩
    · rw [hun] at h; cases h
    have hd8 : o.dst = some f.d8 := by
      unfold fuRole at hrole
      split at hrole
      · assumption
      · split at hrole
        · simp at hrole
        · split at hrole
          · split at hrole <;> simp at hrole
          · simp at hrole
    have hop : (fuA T f o).run st = some (.ws (R m).1) := by
      unfold stepW at hs
      have hwt : (wanted ops o).run st = some (some true) := by simp [wanted, hg, Rd.run]
      rw [hwt, hopF, hrole] at hs
      simp only [fuD] at hs
      split at hs
      · rename_i l hl
        rw [hl, hs]
      · rename_i hl
        exfalso
        unfold fuA at hl
        split at hl
        · obtain ⟨_, _, hl⟩ := rd_bind _ _ _ hl
          obtain ⟨_, _, hl⟩ := rd_bind _ _ _ hl
          obtain ⟨_, _, hl⟩ := rd_bind _ _ _ hl
          obtain ⟨_, _, hl⟩ := rd_bind _ _ _ hl
          obtain ⟨⟨_, _⟩, _, hl⟩ := rd_bind _ _ _ hl
          simp only [Rd.run] at hl
          split at hl
          · obtain ⟨⟨_, _⟩, _, hl⟩ := rd_bind _ _ _ hl
            dsimp only at hl
            split at hl
            · have := rd_pure hl
              cases this
            · simp [Rd.run] at hl
          · simp [Rd.run] at hl
        · simp [Rd.run] at hl
      · exact hs.elim
      · exact hs.elim
    obtain ⟨v, w1, w', H', b, q, ty, vs, vs', g1, g2, g3, g4⟩ := fuA_start (P := P) hT hat.rel (env_of a) hop hd8 S.d.2.1 S.d.2.2.2.1
    refine hwp hg v w1 (.inl g1) (hK' _ _ ⟨H', μ, w', hat.put hdo g2, hx.trans g3, .inl ⟨?_, ?_, b, q, ty, vs, vs', ?_⟩⟩)
    · rw [hset, if_pos rfl]
    · rw [hset, if_neg (by rintro rfl; rw [hun] at hnk; have := hr3.2 rfl; rw [hrole] at this; cases this), hnk]
    · have htm := tmOf_put a o.dst v (by rw [hat.size]; exact hdo)
      have := g4.keep (tm' := tmOf (a.put o.dst v)) (w1 := w1) (H' := H') (Le.refl _) (htm _) (htm _) (htm _) (fun h => h.elim) rfl
      rw [← g4.w'] at this
      refine ⟨this.d8, fun p => ?_, this.blk, this.w', this.sto, this.known⟩
      rw [hset] at p
      split at p
      · rename_i e
        subst e
        have := hr2.2 rfl
        rw [hrole] at this
        cases this
      · rw [hnj] at p; cases p
  by_cases hmj : m = j
  · -- the element's place
    subst hmj
    have hrole := hr2.2 rfl
    obtain ⟨o', ho', hg, hop9⟩ := S.oj
    rw [ho] at ho'
    injection ho' with ho'
    subst ho'
    have hli := hpre i S.ij
    have hnk : listed.getD k true = false := by
      cases h : listed.getD k true with
      | false => rfl
      | true => rw [hkj h] at hun; cases hun
    rcases hinv with ⟨_, _, b, q, ty, vs, vs', hp⟩ | ⟨h, _⟩
    rotate_left
    · exact absurd ⟨hli, hnk⟩ h
    have hd9 : o.dst = some f.d9 := by
      unfold fuRole at hrole
      split at hrole
      · simp at hrole
      · split at hrole
        · assumption
        · split at hrole
          · split at hrole <;> simp at hrole
          · simp at hrole
    have hws : (R m).1 = out o.dst .any := by
      unfold stepW at hs
      have hwt : (wanted ops o).run st = some (some true) := by simp [wanted, hg, Rd.run]
      rw [hwt, hopF, hrole] at hs
      simpa [fuD, pure, Rd.run] using hs
    obtain ⟨off, cnt, c, kk, us, e, ie, it, k1, k2, k3, k4, k5, k6, k7, k8, k9⟩ := hp.d8
    have hex : (execOp a.eval o).run P w = .ok (.value (.pointer (some ⟨b, q, none⟩))) w := by
      have e1 : a.eval (.tmp f.d8) = .slice (some ⟨b, off, none⟩) (cnt + 1) c := k1
      have e2 : a.eval (.tmp f.n) = .int kk (cnt : Int) := k2
      have hlt : (0 : Int) ≤ (cnt : Int) ∧ (cnt : Int) < ((cnt + 1 : Nat) : Int) := by omega
      simp only [execOp, hop9, e1, e2, Instr.indexAt, asIntOf, Sem.run_bind, Sem.run_pure, Result.andThen_ok, runUnder k4, hlt, and_self, if_true, runSize k5, k6, Int.toNat_natCast, addr_add, k9]
    refine hwp hg _ w (.inl hex) (hK' _ _ ⟨H, μ, ws, ?_, hx, .inl ⟨?_, ?_, b, q, ty, vs, vs', ?_⟩⟩)
    · rw [hws]
      exact hat.put hdo (out_rel' hat.rel (.two _ _ (.one _ _ (.any _))) rfl)
    · rw [hset]; split
      · rfl
      · exact hli
    · rw [hset, if_neg (by rintro rfl; have := hr3.2 rfl; rw [hrole] at this; cases this), hnk]
    · have hne : ∀ t, t ≠ f.d9 → tmOf (a.put o.dst (.pointer (some ⟨b, q, none⟩))) t = tmOf a t := fun t ht => tmput _ t (by rw [hd9]; intro e; injection e with e; exact ht e.symm)
      have h0 : Pnd P f False H (tmOf a) w ws b q ty vs vs' := ⟨hp.d8, fun h => h.elim, hp.blk, hp.w', hp.sto, hp.known⟩
      have := h0.keep (tm' := tmOf (a.put o.dst (.pointer (some ⟨b, q, none⟩)))) (w1 := w) (H' := H) (Le.refl _) (hne _ S.d.1) (hne _ S.d.2.2.1) (hne _ S.d.2.2.2.2) (fun h => h.elim) rfl
      rw [← hp.w'] at this
      refine ⟨this.d8, fun _ => ?_, this.blk, this.w', this.sto, this.known⟩
      rw [tmOf_put a o.dst _ (by rw [hat.size]; exact hdo), hd9]
      simp [after, upd]
  by_cases hmk : m = k
  · -- the element's store
    subst hmk
    have hrole := hr3.2 rfl
    obtain ⟨o', ho', hg, hdn, hop10⟩ := S.ok
    rw [ho] at ho'
    injection ho' with ho'
    subst ho'
    have hlj := hpre j S.jk
    have hli := hji hlj
    rcases hinv with ⟨_, _, b, q, ty, vs, vs', hp⟩ | ⟨h, _⟩
    rotate_left
    · exact absurd ⟨hli, hun⟩ h
    have hws : (R m).1 = [] := by
      unfold stepW at hs
      have hwt : (wanted ops o).run st = some (some true) := by simp [wanted, hg, Rd.run]
      rw [hwt, hopF, hrole] at hs
      simpa [fuD, pure, Rd.run] using hs
    obtain ⟨off, cnt, c, kk, us, e, ie, it, k1, k2, k3, k4, k5, k6, k7, k8, k9⟩ := hp.d8
    have hex : (execOp a.eval o).run P w = .ok .skip ws := by
      have e1 : a.eval (.tmp f.d9) = .pointer (some ⟨b, q, none⟩) := hp.d9 hlj
      have hsz : (a.eval (.tmp f.y)).cells.size = it.size := by
        have : (a.eval (.tmp f.y)).cells.toList.length = us.length := by rw [← k3]; rfl
        rw [k8, ← this]
        simp
      have hst := hp.sto w hp.blk
      have hst' : (storeCells ⟨b, q, none⟩ (a.eval (.tmp f.y)).cells.toList).run P w = .ok () (rowSet w b ty vs') := hst
      simp only [execOp, hop10, e1, Instr.storeAt, Instr.sureAddr, Sem.run_bind, Sem.run_pure, Result.andThen_ok, storeVar, runSize k7, hsz, ne_eq, not_true_eq_false, if_false, hst', hp.w']
    refine hwp hg undef ws (.inr ⟨hex, rfl⟩) (hK' _ _ ⟨H, μ, ws, ?_, hx, .inr ⟨?_, rfl⟩⟩)
    · rw [hws]
      have : (a.put o.dst undef) = a := by rw [hdn]; rfl
      rw [this]
      exact hat
    · rintro ⟨_, h⟩
      rw [hset, if_pos rfl] at h
      cases h
  -- another one
  have hF : opF T M o = opN T M o := by
    rw [hopF]
    have h1 : fuRole f o ≠ 1 := fun e => hmi (hr1.1 e)
    have h2 : fuRole f o ≠ 2 := fun e => hmj (hr2.1 e)
    have h3 : fuRole f o ≠ 3 := fun e => hmk (hr3.1 e)
    have h4 : fuRole f o = 0 ∨ fuRole f o = 1 ∨ fuRole f o = 2 ∨ fuRole f o = 3 := by
      unfold fuRole
      split
      · simp
      · split
        · simp
        · split
          · split <;> simp
          · simp
    rcases h4 with h | h | h | h
    · rw [h]; rfl
    · exact absurd h h1
    · exact absurd h h2
    · exact absurd h h3
  have hsi : (listed.setIfInBounds m true).getD i true = listed.getD i true := by rw [hset, if_neg (Ne.symm hmi)]
  have hsj : (listed.setIfInBounds m true).getD j true = listed.getD j true := by rw [hset, if_neg (Ne.symm hmj)]
  have hsk : (listed.setIfInBounds m true).getD k true = listed.getD k true := by rw [hset, if_neg (Ne.symm hmk)]
  rcases hinv with ⟨hli, hnk, b, q, ty, vs, vs', hp⟩ | ⟨hno, rfl⟩
  · have hq : quiet o = true := by
      rcases S.rest m o ho with h | h | h | h | h | h
      · exact absurd h hmi
      · exact absurd h hmj
      · exact absurd h hmk
      · have := hcl i hil hli m h
        rw [this] at hun; cases hun
      · have := hpre k h
        rw [this] at hnk; cases hnk
      · exact h
    obtain ⟨hg, v, w1, H', μ', g1, g2, g3, g4⟩ := quiet_step (P := P) hT hq hF hs hat hdo hp.w' hp.blk hp.known
    have hdd : ∀ t, t = f.d8 ∨ t = f.n ∨ t = f.y ∨ t = f.d9 → o.dst ≠ some t := by
      rintro t ht hdt
      rcases ht with rfl | rfl | rfl | rfl
      · exact hmi (hr1.1 (by unfold fuRole; rw [if_pos hdt]))
      · have := hcl i hil hli m (S.dn m o ho (.inl hdt))
        rw [this] at hun; cases hun
      · have := hcl i hil hli m (S.dn m o ho (.inr hdt))
        rw [this] at hun; cases hun
      · refine hmj (hr2.1 ?_)
        unfold fuRole
        rw [if_neg (by rw [hdt]; intro e; injection e with e; exact S.d.1 e.symm), if_pos hdt]
    refine hwp hg v w1 g1 (hK' _ _ ⟨H', μ', rowSet w1 b ty vs', g2, hx.trans g3, .inl ⟨by rw [hsi]; exact hli, by rw [hsk]; exact hnk, b, q, ty, vs, vs', ?_⟩⟩)
    rw [hsj]
    exact hp.keep g3.le (tmput v _ (hdd _ (.inl rfl))) (tmput v _ (hdd _ (.inr (.inl rfl)))) (tmput v _ (hdd _ (.inr (.inr (.inl rfl))))) (fun _ => tmput v _ (hdd _ (.inr (.inr (.inr rfl))))) g4
  · refine step_sound hT hF ho hdo hs hat fun a' w' H' μ' hat' hx' => hK' a' w' ⟨H', μ', w', hat', hx.trans hx', .inr ⟨?_, rfl⟩⟩
    rw [hsi, hsk]
    exact hno
end
end Go.Ax
set_option linter.unusedVariables false
set_option linter.unusedSimpArgs false
namespace Go.Ax
attribute [local simp] look_cons

def exitOf : X → Exit
  | .normal => .normal
  | .ret => .ret
  | .exit id => .exit id
def dstsOk (n : Nat) : Code → Bool
  | .region _ ops _ => ops.toList.all fun o => match o.dst with | some d => decide (d < n) | none => true
  | .seq a b => dstsOk n a && dstsOk n b
  | .cond _ a b => dstsOk n a && dstsOk n b
  | .block _ a => dstsOk n a
  | .loop a => dstsOk n a
  | _ => true

theorem cur_alike {a b : St} (h : Alike a b) : ∀ (n : Nat) (o : Oid), cur a n o = cur b n o := by
  intro n
  induction n with
  | zero => intro o; rfl
  | succ n ih =>
    intro o
    simp only [cur, h.2]
    split
    · exact ih _
    · rfl
theorem Alike.restrict {a b : St} (h : Alike a b) (hi : Hint) : restrict hi a = restrict hi b := by
  have h1 : ∀ o, curH hi a o = curH hi b o := by
    intro o
    unfold curH
    split
    · split
      · exact cur_alike h _ _
      · rfl
    · exact cur_alike h _ _
  have h2 : keep hi a = keep hi b := by
    funext o
    simp only [keep, h1]
  simp only [Go.Ax.restrict, St.mk.injEq]
  refine ⟨List.map_congr_left fun t _ => by rw [h.1 t, h2], ?_⟩
  congr 1
  funext o
  simp only [obR, h1, h2, h.2]

section
variable {P : Program} {F : Fr} {n : Nat} {D : List Deferred}

theorem awp_sound (c : Ctx) (hC : c.C = COk P F.B) (hT : TabOk P c.T) (hm : P.follows .mixedOrders = true) : ∀ (code : Code) {H μ st a w} {Q : X → St → Prop} {K : Exit → Act → World → Prop}, dstsOk n code = true →
    awp c code st Q → AtS H μ F st a w n D → (∀ e st' a' w' H' μ', Q e st' → AtS H' μ' F st' a' w' n D → Ext F H w H' w' → K (exitOf e) a' w') → code.wp P K a w := by
  intro code
  induction code with
  | skip => intro H μ st a w Q K _ h hat hK; exact wp_skip (hK .normal st a w H μ h hat (Ext.refl _ _ _))
  | ret => intro H μ st a w Q K _ h hat hK; exact wp_ret (hK .ret st a w H μ h hat (Ext.refl _ _ _))
  | exit id => intro H μ st a w Q K _ h hat hK; exact wp_exit (hK (.exit id) st a w H μ h hat (Ext.refl _ _ _))
  | seq x y ihx ihy =>
    intro H μ st a w Q K hd h hat hK
    simp [dstsOk] at hd
    refine wp_seq (ihx hd.1 h hat fun e st' a' w' H' μ' hq hat' hx => ?_)
    cases e with
    | normal => exact ihy hd.2 hq hat' fun e st'' a'' w'' H'' μ'' hq' hat'' hx' => hK e st'' a'' w'' H'' μ'' hq' hat'' (hx.trans hx')
    | ret => exact hK .ret st' a' w' H' μ' hq hat' hx
    | exit id => exact hK (.exit id) st' a' w' H' μ' hq hat' hx
  | cond x y z ihy ihz =>
    intro H μ st a w Q K hd h hat hK
    simp [dstsOk] at hd
    simp only [awp] at h
    split at h
    · rename_i t hv
      have hb := (ev_rep hat.rel (env_of a) hv).bool
      refine wp_cond hb ?_
      cases t
      · exact ihz hd.2 h hat hK
      · exact ihy hd.1 h hat hK
    · exact h.elim
  | block id x ih =>
    intro H μ st a w Q K hd h hat hK
    refine wp_block (ih hd h hat fun e st' a' w' H' μ' hq hat' hx => ?_)
    cases e with
    | normal => exact hK .normal st' a' w' H' μ' hq hat' hx
    | ret => exact hK .ret st' a' w' H' μ' hq hat' hx
    | exit i =>
      simp only [exitOf, Exit.inBlock]
      dsimp only at hq
      by_cases e : i = id
      · rw [if_pos e] at hq ⊢
        exact hK .normal st' a' w' H' μ' hq hat' hx
      · rw [if_neg e] at hq ⊢
        exact hK (.exit i) st' a' w' H' μ' hq hat' hx
  | loop x ih =>
    intro H μ st a w Q K hd h hat hK
    obtain ⟨k, h⟩ := h
    have key : ∀ (k : Nat) (H' : Heap) (μ') (st : St) (a : Act) (w' : World), iter (fun st Q => awp c x (restrict (c.hint (2 * (firstReg x).getD 0 + 1)) st) Q) Q k st → AtS H' μ' F st a w' n D → Ext F H w H' w' → Code.rounds P x K k a w' := by
      intro k
      induction k with
      | zero => intro H' μ' st a w' h; exact h.elim
      | succ k ihk =>
        intro H1 μ1 st a w1 h hat h0
        rw [rounds_succ]
        obtain ⟨μ2, hr⟩ := restrict_rel hat.rel (c.hint (2 * (firstReg x).getD 0 + 1))
        refine ih hd h ⟨hr, hat.size, hat.defers⟩ fun e st' a' w' H' μ' hq hat' hx => ?_
        cases e with
        | normal => exact ihk H' μ' st' a' w' hq hat' (h0.trans hx)
        | ret => exact hK .ret st' a' w' H' μ' hq hat' (h0.trans hx)
        | exit id => exact hK (.exit id) st' a' w' H' μ' hq hat' (h0.trans hx)
    exact wp_loop_rounds k (key k H μ st a w h hat (Ext.refl _ _ _))
  | region id ops draw =>
    intro H μ st a w Q K hd h hat hK
    have hd' : ∀ o ∈ ops.toList, ∀ d, o.dst = some d → d < n := by
      intro o ho d hod
      have := List.all_eq_true.1 hd o ho
      rw [hod] at this
      simpa using this
    cases draw with
    | false =>
      simp only [awp, hC] at h
      refine wp_region_list ?_
      have := runOps_sound (P := P) rfl hT (ops := ops.toList) (K := K) ops.toList hd' h hat (fun st' a' w' H' μ' hq hat' hx => by
        obtain ⟨μ2, hr⟩ := restrict_rel hat'.rel (c.hint (2 * id))
        exact hK .normal _ a' w' H' μ2 hq ⟨hr, hat'.size, hat'.defers⟩ hx)
      simpa using this
    | true =>
      simp only [awp, hC] at h
      obtain ⟨recs, st', e1, ⟨⟨e2, e2'⟩, e3⟩, e4⟩ := runD_run (C := COk P F.B) ops.toList 0 st [] (by simp) (by simp) h
      have hrun := e4 (fun i => recs.getD i ([], [])) (fun j hj => by simp [List.getD_eq_getElem?_getD, List.getElem?_eq_getElem hj])
      refine wp_region_any hm ?_
      have hat' : AtS H μ F st a { w with drawn := w.drawn + 1 } n D := ⟨hat.rel.world rfl, hat.size, hat.defers⟩
      have hfs : ∀ i, i < ops.toList.length → (([] : List Foot) ++ recs.map fun r => (⟨r.2, r.1.map Wr.wh⟩ : Foot)).getD i ⟨[], []⟩ = foot (fun i => recs.getD i ([], [])) i := fun i hi => by
        have hi' : i < recs.length := by rw [e1]; exact hi
        simp [foot, List.getD_eq_getElem?_getD, List.getElem?_eq_getElem hi']
      have hKK : ∀ (stE : St) (a' : Act) (w' : World) (H' : Heap) (μ' : Oid → Option Nat), Alike stE st' → AtS H' μ' F stE a' w' n D → Ext F H { w with drawn := w.drawn + 1 } H' w' → K .normal a' w' := fun stE a' w' H' μ' hal hatE hx => by
        obtain ⟨μ2, hr⟩ := restrict_rel hatE.rel (c.hint (2 * id))
        rw [hal.restrict] at hr
        exact hK .normal _ a' w' H' μ2 e3 ⟨hr, hatE.size, hatE.defers⟩ (Ext.trans (Ext.world (w := w) (w' := { w with drawn := w.drawn + 1 }) rfl ⟨rfl, rfl, rfl⟩) hx)
      have hnone : ∀ j, j < ops.toList.length → (Array.replicate ops.size false).getD j true = false := fun j hj => by
        simp at hj
        simp [Array.getD_eq_getD_getElem?, hj]
      have hC0 : List.range ops.size = (List.range ops.toList.length).filter (fun j => !(Array.replicate ops.size false).getD j true) := by
        symm
        refine List.filter_eq_self.2 fun j hj => ?_
        simp at hj
        simp [Array.getD_eq_getD_getElem?, hj]
      cases hfu : (modeD ops.toList c.opt).fu with
      | none =>
        have := draw_sound (P := P) (F := F) (n := n) (D := D) hfu hT (ops := ops.toList) hd' (K := K) (R := fun i => recs.getD i ([], [])) e2
          hfs (st' := st') (H0 := H) (w0 := { w with drawn := w.drawn + 1 }) hKK
          ops.size (Array.replicate ops.size false) (List.range ops.size) st a { w with drawn := w.drawn + 1 } H μ (by simp) hC0 (by simp) (by simpa [List.range_eq_range'] using hrun) hat' (Ext.refl _ _ _)
          (fun j hj hl => by rw [hnone j hj] at hl; cases hl)
        simpa using this
      | some f =>
        have hok : fuOk f ops.toList = true := by
          unfold fuG at e2'
          rw [hfu] at e2'
          exact e2'
        have := draw_soundF (P := P) (F := F) (n := n) (D := D) hfu hT (ops := ops.toList) hok hd' (K := K) (R := fun i => recs.getD i ([], [])) e2
          hfs (st' := st') (H0 := H) (w0 := { w with drawn := w.drawn + 1 }) hKK
          ops.size (Array.replicate ops.size false) (List.range ops.size) st a { w with drawn := w.drawn + 1 } H μ (by simp) hC0 (by simp) (by simpa [List.range_eq_range'] using hrun) hat' (Ext.refl _ _ _) hnone
        simpa using this
  | _ => intro H μ st a w Q K _ h; exact h.elim
end
end Go.Ax
set_option linter.unusedVariables false
set_option linter.unusedSimpArgs false
namespace Go.Ax
attribute [local simp] look_cons
section
variable {P : Program} {T : Nat → Option TI} {H H' : Heap} {μ μ' : Oid → Option Nat} {F F' : Fr} {st st' : St} {tm tm' : Nat → Value} {w w' : World}

/-- The same things under other names. -/
theorem Rel.rename (h : Rel H μ F st tm w) (g f : Oid → Option Oid) (e : Nat → Option Nat) (hF : F'.F = F.F) (hB : F'.B = F.B)
    (hfg : ∀ o u b, f o = some u → μ o = some b → g u = some o) (hginj : ∀ u u' o, g u = some o → g u' = some o → u = u')
    (hob : ∀ u, st'.ob u = match g u with | some o => (st.ob o).map (Ob.ren f) | none => none)
    (heinj : ∀ t t' s, e t = some s → e t' = some s → t = t')
    (henv : ∀ t, ∃ x v, st'.tm t = renV f x ∧ tm' t = v ∧ RepS H μ x v ∧ (x.isOwn = true → ∃ s, e t = some s ∧ st.tm s = x ∧ tm s = v))
    (hpar : ∀ j, st'.ob (.par j) ≠ none → (g (.par j)).bind μ = F'.G j) : Rel H (fun u => (g u).bind μ) F' st' tm' w := by
  have hf : ∀ o u b, f o = some u → μ o = some b → (fun u => (g u).bind μ) u = some b := by
    intro o u b h1 h2
    simp [hfg o u b h1 h2, h2]
  have hob1 : ∀ u x, st'.ob u = some x → ∃ o y, g u = some o ∧ st.ob o = some y ∧ x = y.ren f := by
    intro u x hx
    rw [hob] at hx
    cases hg : g u with
    | none => rw [hg] at hx; simp at hx
    | some o =>
      rw [hg] at hx
      simp only [Option.map_eq_some_iff] at hx
      obtain ⟨y, h1, h2⟩ := hx
      exact ⟨o, y, rfl, h1, h2.symm⟩
  have hlv : ∀ u b, live st' (fun u => (g u).bind μ) u = some b → ∃ o, g u = some o ∧ live st μ o = some b := by
    intro u b hb
    obtain ⟨h1, h2⟩ := live_some hb
    simp only [Option.bind_eq_some_iff] at h1
    obtain ⟨o, h3, h4⟩ := h1
    refine ⟨o, h3, live_of h4 fun e => h2 ?_⟩
    rw [hob, h3]
    simp [e, Ob.ren]
  have hat : ∀ ℓ sz xs b off n c, atL (fun u => (g u).bind μ) st' tm' w ℓ (.own sz xs) (.slice (some ⟨b, off, none⟩) n c) →
      ∃ ℓ', atL μ st tm w ℓ' (.own sz xs) (.slice (some ⟨b, off, none⟩) n c) ∧ ((∃ t s, ℓ = .t t ∧ ℓ' = .t s ∧ e t = some s) ∨ ∃ u o k, ℓ = .o u k ∧ ℓ' = .o o k ∧ g u = some o) := by
    intro ℓ sz xs b off n c hl
    cases ℓ with
    | t m =>
      obtain ⟨h1, h2⟩ := hl
      obtain ⟨x, v, k1, k2, k3, k4⟩ := henv m
      rw [k1, renV_own] at h1
      obtain ⟨s, k5, k6, k7⟩ := k4 (by rw [h1]; rfl)
      exact ⟨.t s, ⟨k6.trans h1, by rw [k7, ← k2, h2]⟩, .inl ⟨m, s, rfl, rfl, k5⟩⟩
    | o u k =>
      obtain ⟨row, cs, b', h1, h2, h3, h4⟩ := hl
      obtain ⟨o, y, k1, k2, k3⟩ := hob1 _ _ h1
      obtain ⟨cs0, e1, e2⟩ := ren_cells k3.symm
      simp only [k1, Option.bind_some] at h2
      exact ⟨.o o k, ⟨row, cs0, b', by rw [k2, e1], h2, (e2 k sz xs).1 h3, h4⟩, .inr ⟨u, o, k, rfl, rfl, k1⟩⟩
  refine ⟨fun t => ?_, h.heap, h.size, fun u hu => ?_, fun u x hx hax => ?_, fun u u' b h1 h2 => ?_, fun u b hb => ?_, fun u b hb => ?_, ⟨by rw [hF]; exact h.Flt.1, fun b o ho => by rw [hB] at ho; rw [hF]; exact h.Flt.2 b o ho⟩, fun ℓ sz xs b off n c hl => ?_, ?_, hpar, by rw [hB]; exact h.base⟩
  · obtain ⟨x, v, k1, k2, k3, _⟩ := henv t
    rw [k1, k2]
    exact k3.ren hf
  · rw [hob] at hu
    cases hg : g u with
    | none => rfl
    | some o =>
      rw [hg] at hu
      simp only [Option.map_eq_none_iff] at hu
      exact h.dom o hu
  · obtain ⟨o, y, k1, k2, rfl⟩ := hob1 _ _ hx
    rw [ren_alive] at hax
    simp only [k1, Option.bind_some]
    rcases h.obs o y k2 hax with ⟨b, h1, h2⟩ | ⟨rfl, h2⟩
    · exact .inl ⟨b, h1, h2.ren hf⟩
    · exact .inr ⟨rfl, h2⟩
  · obtain ⟨o, k1, k2⟩ := hlv _ _ h1
    obtain ⟨o', k3, k4⟩ := hlv _ _ h2
    have := h.inj _ _ _ k2 k4
    subst this
    exact hginj _ _ _ k1 k3
  · obtain ⟨o, k1, k2⟩ := hlv _ _ hb
    exact h.objH _ _ k2
  · obtain ⟨o, k1, k2⟩ := hlv _ _ hb
    rw [hF]
    exact h.objF _ _ k2
  · obtain ⟨ℓ', hl', _⟩ := hat _ _ _ _ _ _ _ hl
    obtain ⟨g1, g2, g3, g4⟩ := h.own _ _ _ _ _ _ _ hl'
    refine ⟨g1, g2, fun u hu => ?_, by rw [hF]; exact g4⟩
    obtain ⟨o, k1, k2⟩ := hlv _ _ hu
    exact g3 _ k2
  · rintro ℓ ℓ' b ⟨sz1, xs1, off1, n1, c1, h1⟩ ⟨sz2, xs2, off2, n2, c2, h2⟩
    obtain ⟨q1, a1, a2⟩ := hat _ _ _ _ _ _ _ h1
    obtain ⟨q2, b1, b2⟩ := hat _ _ _ _ _ _ _ h2
    have := h.ownInj _ _ _ ⟨_, _, _, _, _, a1⟩ ⟨_, _, _, _, _, b1⟩
    subst this
    rcases a2 with ⟨t, s, rfl, rfl, e1⟩ | ⟨u, o, k, rfl, rfl, e1⟩ <;> rcases b2 with ⟨t', s', rfl, e2, e3⟩ | ⟨u', o', k', rfl, e2, e3⟩
    · injection e2 with e2
      subst e2
      rw [heinj _ _ _ e1 e3]
    · simp at e2
    · simp at e2
    · simp only [Loc.o.injEq] at e2
      obtain ⟨rfl, rfl⟩ := e2
      rw [hginj _ _ _ e1 e3]

theorem init_ob (mv : List Nat) (objs : List Ob) : ∀ (k : Nat) (u : Oid), lookO u ((parObsFrom k objs).map (innOb mv)) = match u with
    | .par j => if mv.contains j then none else if k ≤ j then (objs[j - k]?).map (Ob.ren (inn mv)) else none
    | .alt (.par j) => if mv.contains j then (if k ≤ j then (objs[j - k]?).map (Ob.ren (inn mv)) else none) else none
    | _ => none := by
  induction objs with
  | nil =>
    intro k u
    simp only [parObsFrom, List.map_nil, lookO]
    split <;> simp
  | cons x r ih =>
    intro k u
    simp only [parObsFrom, List.map_cons, lookO, innOb, inn, Option.getD_some, ih]
    by_cases hk : mv.contains k = true
    · rw [if_pos hk]
      have hk' : k ∈ mv := by simpa using hk
      by_cases hu : Oid.alt (.par k) = u
      · subst hu
        simp [hk']
      · rw [if_neg hu]
        split
        · rename_i j
          by_cases hj : mv.contains j = true
          · rw [if_pos hj, if_pos hj]
          · rw [if_neg hj, if_neg hj]
            have hkj : k ≠ j := by rintro rfl; exact hj hk
            by_cases h2 : k ≤ j
            · rw [if_pos (by omega), if_pos h2, show j - k = (j - (k + 1)) + 1 from by omega, List.getElem?_cons_succ]
            · rw [if_neg (by omega), if_neg h2]
        · rename_i j
          have hkj : k ≠ j := by rintro rfl; exact hu rfl
          by_cases hj : mv.contains j = true
          · rw [if_pos hj, if_pos hj]
            by_cases h2 : k ≤ j
            · rw [if_pos (by omega), if_pos h2, show j - k = (j - (k + 1)) + 1 from by omega, List.getElem?_cons_succ]
            · rw [if_neg (by omega), if_neg h2]
          · rw [if_neg hj, if_neg hj]
        · rfl
    · rw [if_neg hk]
      have hk' : k ∉ mv := by simpa using hk
      by_cases hu : Oid.par k = u
      · subst hu
        simp [hk']
      · rw [if_neg hu]
        split
        · rename_i j
          have hkj : k ≠ j := by rintro rfl; exact hu rfl
          by_cases hj : mv.contains j = true
          · rw [if_pos hj, if_pos hj]
          · rw [if_neg hj, if_neg hj]
            by_cases h2 : k ≤ j
            · rw [if_pos (by omega), if_pos h2, show j - k = (j - (k + 1)) + 1 from by omega, List.getElem?_cons_succ]
            · rw [if_neg (by omega), if_neg h2]
        · rename_i j
          by_cases hj : mv.contains j = true
          · have hkj : k ≠ j := by rintro rfl; exact hk hj
            rw [if_pos hj, if_pos hj]
            by_cases h2 : k ≤ j
            · rw [if_pos (by omega), if_pos h2, show j - k = (j - (k + 1)) + 1 from by omega, List.getElem?_cons_succ]
            · rw [if_neg (by omega), if_neg h2]
          · rw [if_neg hj, if_neg hj]
        · rfl
/-- The state that a body begins in. -/
theorem init_rel {mv : List Nat} {args : List V} {objs : List Ob} {vs : List Value} {m : Nat} (hl : args.length = vs.length) (hr : Rel H μ F (conSt args objs []) (argTm vs) w) :
    ∃ μ0, Rel H μ0 ⟨F.F, fun j => if j < objs.length then F.G j else none, F.B⟩ (initM mv args objs) (fun t => (vs.toArray ++ Array.replicate m undef).getD t undef) w ∧ ∀ j, j < objs.length → F.G j = μ (.par j) := by
  have hG : ∀ j, j < objs.length → F.G j = μ (.par j) := by
    intro j hj
    exact (hr.par j (by rw [conSt_ob]; simp [hj])).symm
  refine ⟨_, hr.rename (F' := ⟨F.F, fun j => if j < objs.length then F.G j else none, F.B⟩) (fun u => match u with | .par j => if mv.contains j then none else some (.par j) | .alt (.par j) => if mv.contains j then some (.par j) else none | _ => none) (inn mv) some rfl rfl ?_ ?_ ?_ (fun t t' s h1 h2 => by
      injection h1 with h1; injection h2 with h2; rw [h1, h2]) ?_ ?_, hG⟩
  · intro o u b h1 h2
    cases o with
    | par j =>
      simp only [inn, Option.some.injEq] at h1
      split at h1
      · rename_i hc; subst h1; simp only [hc, if_true]
      · rename_i hc; subst h1; simp only [hc, if_false]; rfl
    | _ => simp [inn] at h1
  · intro u u' o h1 h2
    split at h1
    · split at h1
      · simp at h1
      · rename_i j hc
        injection h1 with h1
        subst h1
        split at h2
        · split at h2
          · simp at h2
          · injection h2 with h2; injection h2 with h2; subst h2; rfl
        · split at h2
          · rename_i hc2; injection h2 with h2; injection h2 with h2; subst h2; exact absurd hc2 hc
          · simp at h2
        · simp at h2
    · split at h1
      · rename_i j hc
        injection h1 with h1
        subst h1
        split at h2
        · split at h2
          · simp at h2
          · rename_i hc2; injection h2 with h2; injection h2 with h2; subst h2; exact absurd hc hc2
        · split at h2
          · injection h2 with h2; injection h2 with h2; subst h2; rfl
          · simp at h2
        · simp at h2
      · simp at h1
    · simp at h1
  · intro u
    simp only [initM, St.ob, init_ob]
    split
    · rename_i j
      by_cases hc : mv.contains j = true
      · rw [if_pos hc, if_pos hc]
      · rw [if_neg hc, if_neg hc]
        have := conSt_ob args objs [] (.par j)
        simp only [St.ob] at this
        simp [this]
    · rename_i j
      by_cases hc : mv.contains j = true
      · rw [if_pos hc, if_pos hc]
        have := conSt_ob args objs [] (.par j)
        simp only [St.ob] at this
        simp [this]
      · rw [if_neg hc, if_neg hc]
    · rfl
  · intro t
    refine ⟨(conSt args objs []).tm t, argTm vs t, ?_, ?_, hr.env t, fun _ => ⟨t, rfl, rfl, rfl⟩⟩
    · rw [conSt_tm]
      simp only [initM, St.tm, argsFrom_look, Nat.zero_le, if_true, Nat.sub_zero, List.getElem?_map]
      cases args[t]? <;> rfl
    · simp only [argTm]
      rw [Array.getD_eq_getD_getElem?, Array.getElem?_append]
      by_cases ht : t < vs.length
      · rw [if_pos (by simpa using ht)]
        simp
      · rw [if_neg (by simpa using ht), List.getElem?_eq_none (by omega)]
        simp only [Array.getElem?_replicate]
        split <;> rfl
  · intro j hj
    simp only [initM, St.ob, init_ob] at hj
    by_cases hc : mv.contains j = true
    · rw [if_pos hc] at hj; simp at hj
    · rw [if_neg hc] at hj
      show (if mv.contains j = true then none else some (Oid.par j)).bind μ = (if j < objs.length then F.G j else none)
      rw [if_neg hc]
      simp only [Nat.zero_le, if_true, Nat.sub_zero] at hj
      have hjl : j < objs.length := by
        cases hq : objs[j]? with
        | none => rw [hq] at hj; simp at hj
        | some x => exact (List.getElem?_eq_some_iff.1 hq).1
      simp only [Option.bind_some, if_pos hjl]
      exact (hG j hjl).symm

def resRun (a : Act) : ResultVar → Sem Value
  | .tmp t => pure (a.tmps.getD t undef)
  | .cell b t => do loadVar t (← asAddr (a.tmps.getD b undef))
/-- One result. -/
theorem resV_run (hT : TabOk P T) {a : Act} (hr : Rel H μ F st (tmOf a) w) {x : ResultVar} {v : V} (h : resV T st x = some v) :
    ∃ u, (resRun a x).run P w = .ok u w ∧ RepS H μ v u ∧
      (v.isOwn = true → ∃ t, x = .tmp t ∧ st.tm t = v ∧ tmOf a t = u) := by
  cases x with
  | tmp t =>
    simp [resV] at h
    exact ⟨tmOf a t, rfl, h ▸ hr.env t, fun _ => ⟨t, rfl, h, rfl⟩⟩
  | cell b t =>
    simp only [resV] at h
    split at h
    · rename_i u off ti hb hti
      split at h
      · rename_i row cs hob
        have hti := hT _ _ hti
        cases hg : getS ti cs off with
        | none => rw [hg] at h; simp at h
        | some y =>
          rw [hg] at h
          simp at h
          subst h
          obtain ⟨bb, hbb, e⟩ := (hb ▸ hr.env b).ref
          obtain ⟨vs, ty, hblk, hrep, _⟩ := hr.cellsAt hob hbb
          obtain ⟨v, g1, g2, _⟩ := load_run (w := w) (P := P) (o0 := 0) hti hrep (fun j hj => by rw [cell?_of hblk, Nat.zero_add]; simp at hj; simp [List.getElem_take]) hg
          rw [Nat.zero_add] at g1
          refine ⟨v, ?_, (RepS.two _ _ g2).weak, fun h => by rw [weak_not_own] at h; simp at h⟩
          have e' : a.tmps.getD b undef = .pointer (some ⟨bb, off, none⟩) := e
          simp only [Instr.loadAt, Instr.sureAddr, Sem.run_bind, Sem.run_pure, Result.andThen_ok] at g1
          simp only [resRun, e', asAddr, Sem.run_bind, Sem.run_pure, Result.andThen_ok]
          exact g1
      · simp at h
    · simp at h
theorem weak_isTup {v : V} : v.weak.isTup = v.isTup := by cases v <;> rfl
theorem RepS.to2 {v : V} {u : Value} (h : RepS H μ v u) (ht : v.isTup = false) : Rep2 H μ v u := by
  cases h with
  | two _ _ h => exact h
  | tup => simp [V.isTup] at ht
theorem resL_run (hT : TabOk P T) {a : Act} (hr : Rel H μ F st (tmOf a) w) : ∀ (l : List ResultVar) {vs : List V}, resL T st l = some vs →
    ∃ us : List Value, (l.mapM (m := Sem) (resRun a)).run P w = .ok us w ∧ RepT H μ vs us ∧ us.length = l.length := by
  intro l
  induction l with
  | nil => intro vs h; simp [resL] at h; subst h; exact ⟨[], by simp, .nil, rfl⟩
  | cons x r ih =>
    intro vs h
    simp only [resL] at h
    split at h
    · rename_i v l hv hl
      split at h
      · simp at h
      · rename_i ht
        injection h with h
        subst h
        obtain ⟨u, h1, h2, _⟩ := resV_run (P := P) hT hr hv
        obtain ⟨us, g1, g2, g3⟩ := ih hl
        refine ⟨u :: us, ?_, .cons _ _ _ _ (h2.weak.to2 (by rw [weak_isTup]; simpa using ht)) g2, by simp [g3]⟩
        rw [List.mapM_cons]
        simp only [Sem.run_bind, Sem.run_pure, h1, Result.andThen_ok, g1]
    · simp at h

theorem parsOf_get {mv : List Nat} {f : Oid → Option Oid} : ∀ (n k : Nat) {l : List Ob}, parsOf mv f st k n = some l → l.length = n ∧ ∀ j (hj : j < l.length), ∃ x, st.ob (if mv.contains (k + j) then .alt (.par (k + j)) else .par (k + j)) = some x ∧ l[j] = x.ren f := by
  intro n
  induction n with
  | zero => intro k l h; simp [parsOf] at h; subst h; simp
  | succ n ih =>
    intro k l h
    simp only [parsOf] at h
    split at h
    · rename_i x l' hx hl
      injection h with h
      subst h
      obtain ⟨h1, h2⟩ := ih (k + 1) hl
      refine ⟨by simp [h1], fun j hj => ?_⟩
      cases j with
      | zero => exact ⟨x, by simpa using hx, rfl⟩
      | succ j =>
        obtain ⟨y, h3, h4⟩ := h2 j (by simpa using hj)
        exact ⟨y, by rw [show k + (j + 1) = k + 1 + j from by omega]; exact h3, by simpa using h4⟩
    · simp at h
theorem newsOf_get {f : Oid → Option Oid} : ∀ (nws : List Oid) {l : List Ob}, newsOf f st nws = some l → l.length = nws.length ∧ ∀ i (hi : i < l.length) (hi' : i < nws.length), ∃ x, st.ob nws[i] = some x ∧ l[i] = x.ren f := by
  intro nws
  induction nws with
  | nil => intro l h; simp [newsOf] at h; subst h; simp
  | cons o r ih =>
    intro l h
    simp only [newsOf] at h
    split at h
    · rename_i x l' hx hl
      injection h with h
      subst h
      obtain ⟨h1, h2⟩ := ih hl
      refine ⟨by simp [h1], fun i hi hi' => ?_⟩
      cases i with
      | zero => exact ⟨x, hx, rfl⟩
      | succ i => exact h2 i (by simpa using hi) (by simpa using hi')
    · simp at h

theorem results_eq (fn : Func) (tmps : Array Value) (D : List Deferred) : results fn tmps = (do let vs ← fn.results.mapM (resRun ⟨tmps, D⟩); pure (if h : vs.size = 1 then vs[0] else .tuple vs)) := by
  unfold results
  congr 2
/-- All results. -/
theorem resS_run (hT : TabOk P T) {a : Act} (hr : Rel H μ F st (tmOf a) w) {fn : Func} {v : V} (h : resS T st fn.results.toList = some v) :
    ∃ u, (results fn a.tmps).run P w = .ok u w ∧ RepS H μ v u ∧ (v.isOwn = true → ∃ t, st.tm t = v ∧ tmOf a t = u) := by
  rw [results_eq fn a.tmps a.defers, Array.mapM_eq_mapM_toList]
  simp only [bind_map_left, Sem.run_bind]
  unfold resS at h
  split at h
  · rename_i x hx
    obtain ⟨u, h1, h2, h3⟩ := resV_run (P := P) hT hr h
    refine ⟨u, ?_, h2, fun ho => by obtain ⟨t, _, h4, h5⟩ := h3 ho; exact ⟨t, h4, h5⟩⟩
    rw [hx]
    simp [h1]
  · rename_i hne
    cases hl : resL T st fn.results.toList with
    | none => rw [hl] at h; simp at h
    | some vs =>
      rw [hl] at h
      simp at h
      subst h
      obtain ⟨us, h1, h2, h3⟩ := resL_run (P := P) hT hr _ hl
      refine ⟨.tuple us.toArray, ?_, .tup _ _ h2, fun h => by simp [V.isOwn] at h⟩
      rw [h1]
      simp only [Result.andThen_ok, Sem.run_pure]
      have : us.toArray.size ≠ 1 := by
        simp only [List.size_toArray, h3]
        intro hl1
        match hq : fn.results.toList, hl1 with
        | [x], _ => exact hne x hq
      rw [dif_neg this]

theorem Rel.addDead {H μ F st tm w} (h : Rel H μ F st tm w) {j : Nat} (ho : st.ob (.par j) = none) : Rel H (updO μ (.par j) (F.G j)) F (st.putO (.par j) .dead) tm w := by
  have hμ := h.dom _ ho
  have hm : LeM μ (updO μ (.par j) (F.G j)) := by
    intro o b hb
    unfold updO
    split
    · rename_i e; subst e; rw [hμ] at hb; simp at hb
    · exact hb
  have hlv : ∀ u b, live (st.putO (.par j) .dead) (updO μ (.par j) (F.G j)) u = some b → live st μ u = some b := by
    intro u b hb
    unfold live at hb ⊢
    rw [St.ob_putO] at hb
    by_cases e : Oid.par j = u
    · subst e; simp at hb
    · rw [if_neg e] at hb
      unfold updO at hb
      rw [if_neg (fun e' => e e'.symm)] at hb
      exact hb
  have hat : ∀ ℓ y v, atL (updO μ (.par j) (F.G j)) (st.putO (.par j) .dead) tm w ℓ y v → atL μ st tm w ℓ y v := by
    intro ℓ y v hl
    cases ℓ with
    | t m => exact hl
    | o u i =>
      obtain ⟨row, cs, b', h1, h2, h3, h4⟩ := hl
      rw [St.ob_putO] at h1
      by_cases e : Oid.par j = u
      · subst e; simp at h1
      · rw [if_neg e] at h1
        unfold updO at h2
        rw [if_neg (fun e' => e e'.symm)] at h2
        exact ⟨row, cs, b', h1, h2, h3, h4⟩
  refine ⟨fun t => (h.env t).mono (Le.refl _) hm, h.heap, h.size, ?_, ?_, fun o o' b h1 h2 => h.inj o o' b (hlv _ _ h1) (hlv _ _ h2), fun o b h1 => h.objH o b (hlv _ _ h1), fun o b h1 => h.objF o b (hlv _ _ h1), h.Flt,
    fun ℓ sz xs b off n c hl => (h.own _ _ _ _ _ _ _ (hat _ _ _ hl)).sub hlv, fun ℓ ℓ' b ⟨sz, xs, off, n, c, h1⟩ ⟨sz', xs', off', n', c', h2⟩ => h.ownInj ℓ ℓ' b ⟨_, _, _, _, _, hat _ _ _ h1⟩ ⟨_, _, _, _, _, hat _ _ _ h2⟩, ?_, h.base⟩
  · intro u hu
    rw [St.ob_putO] at hu
    split at hu
    · simp at hu
    · rename_i e
      unfold updO
      rw [if_neg (fun e' => e e'.symm)]
      exact h.dom u hu
  · intro u y hy ha
    rw [St.ob_putO] at hy
    split at hy
    · injection hy with hy; subst hy; simp [Ob.alive] at ha
    · rename_i e
      rcases h.obs u y hy ha with ⟨b, h1, h2⟩ | h1
      · refine .inl ⟨b, hm _ _ h1, ?_⟩
        exact h2.keep rfl (Le.refl _) hm
      · refine .inr ⟨h1.1, ?_⟩
        unfold updO
        rw [if_neg (fun e' => e e'.symm)]
        exact h1.2
  · intro i hi
    unfold updO
    by_cases e : i = j
    · subst e; simp
    · rw [if_neg (by simpa using e)]
      rw [St.ob_putO, if_neg (by intro e'; injection e' with e'; exact e e'.symm)] at hi
      exact h.par i hi
theorem Rel.fill {H F tm w} (mv : List Nat) : ∀ (n : Nat) {μ st}, Rel H μ F st tm w → ∃ μ2 st2, Rel H μ2 F st2 tm w ∧ (∀ t, st2.tm t = st.tm t) ∧ (∀ o x, st.ob o = some x → st2.ob o = some x) ∧
    (∀ o, (∀ j, o ≠ .par j) → st2.ob o = st.ob o) ∧ (∀ j, j < n → mv.contains j = false → st.ob (.par j) = none → st2.ob (.par j) = some .dead) ∧ (∀ j, n ≤ j ∨ mv.contains j = true → st2.ob (.par j) = st.ob (.par j))
  | 0, μ, st, h => ⟨μ, st, h, fun _ => rfl, fun _ _ h => h, fun _ _ => rfl, fun j hj => by omega, fun _ _ => rfl⟩
  | n + 1, μ, st, h => by
    obtain ⟨μ2, st2, h1, h2, h3, h4, h5, h6⟩ := Rel.fill mv n h
    cases ho : st2.ob (.par n) with
    | some x =>
      refine ⟨μ2, st2, h1, h2, h3, h4, fun j hj hm hn => ?_, fun j hj => h6 j (hj.imp (fun h => by omega) id)⟩
      by_cases e : j = n
      · subst e
        by_cases hmm : mv.contains j = true
        · rw [hmm] at hm; simp at hm
        · rw [h6 j (.inl (Nat.le_refl _)), hn] at ho; simp at ho
      · exact h5 j (by omega) hm hn
    | none =>
      by_cases hc : mv.contains n = true
      · refine ⟨μ2, st2, h1, h2, h3, h4, fun j hj hm hn => ?_, fun j hj => h6 j (hj.imp (fun h => by omega) id)⟩
        by_cases e : j = n
        · subst e; rw [hc] at hm; simp at hm
        · exact h5 j (by omega) hm hn
      · refine ⟨_, _, h1.addDead ho, fun t => h2 t, fun o x hx => ?_, fun o hx => ?_, fun j hj hm hn => ?_, fun j hj => ?_⟩
        · have := h3 o x hx
          rw [St.ob_putO]
          split
          · rename_i e; subst e; rw [ho] at this; simp at this
          · exact this
        · rw [St.ob_putO, if_neg (fun e => hx n e.symm)]; exact h4 o hx
        · rw [St.ob_putO]
          split
          · rfl
          · rename_i e
            exact h5 j (by have : j ≠ n := fun e' => e (by rw [e']); omega) hm hn
        · rw [St.ob_putO]
          split
          · rename_i e
            injection e with e
            subst e
            rcases hj with hj | hj
            · omega
            · exact absurd hj hc
          · exact h6 j (hj.imp (fun h => by omega) id)
theorem parsD_of {mv : List Nat} {f : Oid → Option Oid} {st st2 : St} {N : Nat} (h3 : ∀ o x, st.ob o = some x → st2.ob o = some x)
    (h4 : ∀ o, (∀ j, o ≠ .par j) → st2.ob o = st.ob o) (h5 : ∀ j, j < N → mv.contains j = false → st.ob (.par j) = none → st2.ob (.par j) = some .dead) :
    ∀ (n k : Nat), k + n ≤ N → parsOf mv f st2 k n = parsD mv f st k n
  | 0, k, _ => rfl
  | n + 1, k, hk => by
    simp only [parsOf, parsD, parsD_of h3 h4 h5 n (k + 1) (by omega)]
    have e : st2.ob (if mv.contains k = true then .alt (.par k) else .par k) = (match st.ob (if mv.contains k = true then .alt (.par k) else .par k) with | some x => some x | none => if mv.contains k = true then none else some .dead) := by
      by_cases hc : mv.contains k = true
      · simp only [if_pos hc]
        rw [h4 _ (by intro j; simp)]
        cases st.ob (.alt (.par k)) <;> rfl
      · simp only [if_neg hc]
        cases ho : st.ob (.par k) with
        | some x => exact h3 _ _ ho
        | none => exact h5 k (by omega) (by simpa using hc) ho
    rw [e]
    rfl
theorem resS_mono {T : Nat → Option TI} {st st2 : St} (h2 : ∀ t, st2.tm t = st.tm t) (h3 : ∀ o x, st.ob o = some x → st2.ob o = some x) : ∀ {l : List ResultVar} {r : V}, resS T st l = some r → resS T st2 l = some r := by
  have hv : ∀ {x : ResultVar} {r : V}, resV T st x = some r → resV T st2 x = some r := by
    intro x r h
    cases x with
    | tmp t => simp only [resV, h2] at h ⊢; exact h
    | cell t ty =>
      simp only [resV, h2] at h ⊢
      split at h
      · rename_i u off ti e1 e2
        cases ho : st.ob u with
        | none => rw [ho] at h; simp at h
        | some x => rw [ho] at h; rw [h3 _ _ ho]; exact h
      · simp at h
  have hl : ∀ {l : List ResultVar} {r : List V}, resL T st l = some r → resL T st2 l = some r := by
    intro l
    induction l with
    | nil => intro r h; exact h
    | cons x l ih =>
      intro r h
      simp only [resL] at h ⊢
      split at h
      · rename_i v l' e1 e2
        rw [hv e1, ih e2]
        exact h
      · simp at h
  intro l r h
  match l, h with
  | [x], h => exact hv h
  | [], h => exact h
  | x :: y :: l, h =>
    simp only [resS, Option.map_eq_some_iff] at h ⊢
    obtain ⟨a, h1, h2⟩ := h
    exact ⟨a, hl h1, h2⟩
theorem newsOf_mono {f : Oid → Option Oid} {st st2 : St} (h3 : ∀ o x, st.ob o = some x → st2.ob o = some x) : ∀ {l : List Oid} {r : List Ob}, newsOf f st l = some r → newsOf f st2 l = some r
  | [], r, h => h
  | o :: l, r, h => by
    simp only [newsOf] at h ⊢
    split at h
    · rename_i x l' e1 e2
      rw [h3 _ _ e1, newsOf_mono h3 e2]
      exact h
    · simp at h

/-- What a body is proved to do, as a contract. -/
theorem callM_of {mv : List Nat} {B : Heap} {f : FuncId} {fn : Func} {code : Code} (hT : TabOk P T) (hm : P.follows .mixedOrders = true) (hf : P.funcs[f]? = some fn) (hb : fn.body = some code)
    (henter : ∀ (as_ : Array Value) (w : World), (callFunc f as_).run P w = .ok (.enter f as_) w) (hint : Nat → Hint) {opt : Opt} {args : List V} {objs : List Ob} {S : Post} {nwl : List Oid}
    (hd : dstsOk fn.ntmps code = true) (hn : args.length ≤ fn.ntmps) (hnw : nwOk nwl = true)
    (h : awp ⟨COk P B, T, hint, opt⟩ code (initM mv args objs) fun e st => ∃ r objs' news, (S r objs' news ∧ objs'.length = objs.length) ∧ (e = .ret ∨ e = .normal) ∧ (resS T st fn.results.toList).map (renV (outn objs.length (mv) (nwl.take news.length))) = some r ∧
      parsD (mv) (outn objs.length (mv) (nwl.take news.length)) st 0 objs.length = some objs' ∧ newsOf (outn objs.length (mv) (nwl.take news.length)) st (nwl.take news.length) = some news) :
    CallS P B mv f args objs S := by
  refine ⟨henter, fun H F w μ vs hFB hvs hr => ?_⟩
  subst hFB
  refine calls_of_wp hf hb ?_
  obtain ⟨μ0, hr0, hG⟩ := init_rel (m := fn.ntmps - vs.toArray.size) hvs hr
  have hat : AtS H μ0 ⟨F.F, fun j => if j < objs.length then F.G j else none, F.B⟩ (initM mv args objs) { tmps := vs.toArray ++ Array.replicate (fn.ntmps - vs.toArray.size) undef, defers := [] } w fn.ntmps [] :=
    ⟨hr0, by simp; omega, rfl⟩
  refine awp_sound (F := ⟨F.F, fun j => if j < objs.length then F.G j else none, F.B⟩) ⟨COk P F.B, T, hint, opt⟩ rfl hT hm code hd h hat fun e st' a' w' H' μ' hq hat' hx => ?_
  obtain ⟨r, objs', news, ⟨hS, hlen⟩, hq⟩ := hq
  generalize hnws : nwl.take news.length = nws at *
  obtain ⟨hex, hres, hpar, hnews⟩ := hq
  obtain ⟨μ2, st2, hrel2, g2, g3, g4, g5, g6⟩ := hat'.rel.fill mv objs.length
  rw [← parsD_of g3 g4 g5 objs.length 0 (by omega)] at hpar
  replace hnews := newsOf_mono g3 hnews
  have hnw2 : nws.Nodup ∧ ∀ o ∈ nws, ∀ j, o.root ≠ .par j := by
    simp only [nwOk, Bool.and_eq_true, decide_eq_true_eq, List.all_eq_true] at hnw
    rw [← hnws]
    refine ⟨hnw.1.sublist (List.take_sublist _ _), fun o ho j e => ?_⟩
    have := hnw.2 o (List.mem_of_mem_take ho)
    rw [e] at this
    simp at this
  cases hr1' : resS T st' fn.results.toList with
  | none => rw [hr1'] at hres; simp at hres
  | some r0 =>
  have hr0' := resS_mono g2 g3 hr1'
  rw [hr1'] at hres
  simp at hres
  obtain ⟨u, h1, h2, h3⟩ := resS_run (P := P) hT hrel2 hr0'
  obtain ⟨p1, p2⟩ := parsOf_get _ _ hpar
  obtain ⟨n1, n2⟩ := newsOf_get _ hnews
  have hpost : ∃ r objs' news, (S r objs' news ∧ objs'.length = objs.length) ∧ ∃ v H' μ2 F', Ending.returned u = .returned v ∧ F'.F = F.F ∧ F'.B = F.B ∧ (∀ j, j < objs.length → j ∉ mv → μ2 (.par j) = μ (.par j)) ∧
      Rel H' μ2 F' (conSt [r] objs' news) (upd noTm 0 v) w' ∧ Ext F H w H' w' := by
    refine ⟨r, objs', news, ⟨hS, hlen⟩, u, H', _, ⟨F.F, fun j => ((fun u => match u with | .par j => if j < objs.length then some (if mv.contains j then .alt (.par j) else .par j) else none | .sub 0 i => nws[i]? | _ => none : Oid → Option Oid) (.par j)).bind μ2, F.B⟩, rfl, rfl, rfl, ?_,
      hrel2.rename (F' := ⟨F.F, fun j => ((fun u => match u with | .par j => if j < objs.length then some (if mv.contains j then .alt (.par j) else .par j) else none | .sub 0 i => nws[i]? | _ => none : Oid → Option Oid) (.par j)).bind μ2, F.B⟩)
        (fun u => match u with | .par j => if j < objs.length then some (if mv.contains j then .alt (.par j) else .par j) else none | .sub 0 i => nws[i]? | _ => none) (outn objs.length mv nws)
        (fun t => if t = 0 ∧ r0.isOwn = true then some (Classical.epsilon fun s : Nat => st2.tm s = r0 ∧ tmOf a' s = u) else none) rfl rfl ?_ ?_ ?_ ?_ ?_ (fun _ _ => rfl), ⟨hx.io, hx.le, hx.size, hx.frm, hx.frH⟩⟩
    · intro j hj hjm
      have hc : ¬ mv.contains j = true := by simpa using hjm
      obtain ⟨x, hx1, _⟩ := p2 j (by omega)
      rw [Nat.zero_add, if_neg hc] at hx1
      have hp := hrel2.par j (by rw [hx1]; simp)
      show ((if j < objs.length then some (if mv.contains j = true then Oid.alt (.par j) else Oid.par j) else none).bind μ2) = μ (.par j)
      rw [if_pos hj, if_neg hc, Option.bind_some, hp]
      show (if j < objs.length then F.G j else none) = _
      rw [if_pos hj, hG j hj]
    · intro o u' b k1 k2
      unfold outn at k1
      split at k1
      · rename_i j
        split at k1
        · simp at k1
        · rename_i hc
          split at k1
          · rename_i hj
            injection k1 with k1
            subst k1
            simp only [if_pos hj, if_neg hc]
          · simp at k1
      · rename_i j
        split at k1
        · rename_i hc
          split at k1
          · rename_i hj
            injection k1 with k1
            subst k1
            simp only [if_pos hj, if_pos hc]
          · simp at k1
        · simp at k1
      · cases hp : place o nws with
        | none => rw [hp] at k1; simp at k1
        | some i =>
          rw [hp] at k1
          simp at k1
          subst k1
          exact place_some hp
    · have hpr : ∀ (u : Oid) o, (match u with | .par j => if j < objs.length then some (if mv.contains j = true then Oid.alt (.par j) else Oid.par j) else none | .sub 0 i => nws[i]? | _ => none : Option Oid) = some o →
          (∃ j, u = .par j ∧ o.root = .par j) ∨ ∃ i, u = .sub 0 i ∧ nws[i]? = some o := by
        intro u o hu
        split at hu
        · rename_i j
          split at hu
          · injection hu with hu
            left
            refine ⟨j, rfl, ?_⟩
            rw [← hu]
            split <;> rfl
          · simp at hu
        · rename_i i
          exact .inr ⟨i, rfl, hu⟩
        · simp at hu
      intro u1 u2 o k1 k2
      rcases hpr _ _ k1 with ⟨j, rfl, k3⟩ | ⟨i, rfl, k3⟩ <;> rcases hpr _ _ k2 with ⟨j', rfl, k4⟩ | ⟨i', rfl, k4⟩
      · rw [k3] at k4
        injection k4 with k4
        rw [k4]
      · exact absurd k3 (hnw2.2 o (List.mem_of_getElem? k4) j)
      · exact absurd k4 (hnw2.2 o (List.mem_of_getElem? k3) j')
      · obtain ⟨l1, e1⟩ := List.getElem?_eq_some_iff.1 k3
        obtain ⟨l2, e2⟩ := List.getElem?_eq_some_iff.1 k4
        have := (List.getElem_inj hnw2.1).1 (e1.trans e2.symm)
        rw [this]
    · intro u1
      rw [conSt_ob]
      cases u1 with
      | par j =>
        dsimp only
        by_cases hj : j < objs.length
        · obtain ⟨x, hx1, hx2⟩ := p2 j (by omega)
          rw [Nat.zero_add] at hx1
          rw [if_pos hj]
          show _ = (st2.ob _).map _
          rw [hx1, List.getElem?_eq_getElem (by omega), hx2]
          rfl
        · rw [if_neg hj, List.getElem?_eq_none (by omega)]
      | sub t i =>
        cases t with
        | zero =>
          show news[i]? = match (nws[i]? : Option Oid) with | some o => (st2.ob o).map (Ob.ren (outn objs.length mv nws)) | none => none
          by_cases hi : i < news.length
          · obtain ⟨x, hx1, hx2⟩ := n2 i hi (by omega)
            rw [List.getElem?_eq_getElem (show i < nws.length by omega)]
            show _ = (st2.ob _).map _
            rw [hx1, List.getElem?_eq_getElem hi, hx2]
            rfl
          · rw [List.getElem?_eq_none (by omega), List.getElem?_eq_none (by omega)]
        | succ t => rfl
      | _ => rfl
    · intro t t' s k1 k2
      split at k1
      · rename_i e1
        split at k2
        · rename_i e2
          rw [e1.1, e2.1]
        · simp at k2
      · simp at k1
    · intro t
      by_cases ht : t = 0
      · subst ht
        refine ⟨r0, u, ?_, by simp [upd], h2, fun ho => ?_⟩
        · rw [conSt_tm]
          simp [hres]
        · have := Classical.epsilon_spec (h3 ho)
          exact ⟨_, by rw [if_pos ⟨rfl, ho⟩], this.1, this.2⟩
      · refine ⟨.any, noTm t, ?_, by simp [upd, ht], .two _ _ (.one _ _ (.any _)), by simp [V.isOwn]⟩
        rw [conSt_tm]
        cases t with
        | zero => exact absurd rfl ht
        | succ t => rfl
  rcases hex with rfl | rfl
  · exact ⟨hat'.defers, u, h1, hpost⟩
  · exact ⟨hat'.defers, u, h1, hpost⟩
end
end Go.Ax
set_option linter.unusedVariables false
set_option linter.unusedSimpArgs false
namespace Go.Ax
attribute [local simp] look_cons

def eszB (P : Program) (d : TypeDesc) : Option (Nat × Nat) → Bool
  | none => true
  | some (n, b) => match d with
    | .slice e => match P.info? e with
      | some j => j.size == n && j.bytes == b && (match j.zero with | some z => z.cells.size == n | none => false) && decide (0 < n) && decide (0 < b)
      | none => false
    | _ => false
def fldB (P : Program) : List Field → List (Nat × Nat) → Bool
  | [], [] => true
  | f :: fs, (o, n) :: r => (match P.info? f.type with | some i => f.offset == o && i.size == n && decide (n ≠ 0) | none => false) && fldB P fs r
  | _, _ => false
def zeroB (ti : TI) : Option Value → Bool
  | some z => zcs ti.zero z.cells.toList && (!ti.isAgg || (match z with | .agg _ => true | _ => false))
  | none => false
def eqB (P : Program) (t : TypeId) (d : TypeDesc) : List Nat → Bool
  | [1] => (match d with | .bool => true | _ => false)
  | [3] => (match d with | .pointer _ => true | _ => false)
  | [5] => (match d with | .slice _ => true | _ => false)
  | 10 :: ks => (match d with
    | .struct fs => fs.size == ks.length && !P.stoodInHeld t && !P.eqGuardType P.depth t && (fs.toList.zip ks).zipIdx.all fun x => x.1.1.name != "_" && x.1.1.offset == x.2 && (match P.underlying x.1.1.type with | some d => basicD x.1.2 d | none => false)
    | _ => false)
  | [] => true
  | _ => false
theorem eqB_ok {P : Program} {t : TypeId} {d : TypeDesc} {k : List Nat} (hd : P.underlying t = some d) (h : eqB P t d k = true) : EqOk P t k := by
  refine ⟨fun e => ?_, fun e => ?_, fun e => ?_, fun ks e => ?_⟩
  · subst e
    simp [eqB] at h
    cases d <;> simp at h
    exact hd
  · subst e
    simp [eqB] at h
    cases d <;> simp at h
    exact ⟨_, hd⟩
  · subst e
    simp [eqB] at h
    cases d <;> simp at h
    exact ⟨_, hd⟩
  · subst e
    simp only [eqB] at h
    cases d <;> simp only [Bool.false_eq_true] at h
    rename_i fs
    simp only [Bool.and_eq_true, Bool.not_eq_true', beq_iff_eq, List.all_eq_true] at h
    obtain ⟨⟨⟨h1, h2⟩, h3⟩, h4⟩ := h
    refine ⟨fs, hd, h1, h2, h3, fun i fd n hi hn => ?_⟩
    have := h4 ((fd, n), i) (by rw [List.mem_zipIdx_iff_getElem?]; simp only; rw [List.getElem?_zip_eq_some]; exact ⟨hi, hn⟩)
    obtain ⟨⟨g1, g2⟩, g3⟩ := this
    refine ⟨by simpa using g1, g2, ?_⟩
    cases hu : P.underlying fd.type with
    | none => rw [hu] at g3; simp at g3
    | some d => rw [hu] at g3; exact ⟨d, rfl, g3⟩
def ezB (P : Program) (d : TypeDesc) (ez : List V) : Bool :=
  ez.isEmpty || match d with
    | .slice e => match P.info? e with
      | some i => match i.zero with | some z => zcs ez z.cells.toList | none => false
      | none => false
    | _ => false
def arrB (P : Program) (d : TypeDesc) : Option (Nat × Nat) → Bool
  | none => true
  | some (n, k) => match d with
    | .array m e => m == n && match P.info? e with | some i => i.size == k | none => false
    | _ => false
def keyB (P : Program) (k : Nat) (ke : TypeId) : Bool :=
  match P.underlying ke with
  | some (.int _) => k == 2
  | some .string => k == 4
  | some (.array m e) => k == 100 && m == 2 && (match P.underlying e with | some (.int _) => true | _ => false) && (match P.info? e with | some i => i.size == 1 | none => false)
  | _ => false
def kvB (P : Program) (d : TypeDesc) : Option (Nat × V) → Bool
  | none => true
  | some (k, z) => match d with
    | .map ke e => keyB P k ke && z.pure && match P.info? e with
      | some i => match i.zero with | some zz => zm z zz | none => false
      | none => false
    | _ => false
def ikB (d : TypeDesc) : Option IntKind → Bool
  | none => true
  | some k => match d with | .int k' => k == k' | _ => false
def isBB (P : Program) (d : TypeDesc) (b : Bool) : Bool :=
  !b || match d with
    | .slice e => match P.underlying e with | some (.int .u8) => true | _ => false
    | _ => false
def ftGo (fs : Array Field) : Nat → List Nat → Bool
  | _, [] => true
  | k, t :: r => (match fs[k]? with | some fd => fd.type == t | none => false) && ftGo fs (k + 1) r
def ftB (d : TypeDesc) (l : List Nat) : Bool :=
  l.isEmpty || match d with
    | .struct fs => ftGo fs 0 l
    | _ => false
theorem ftGo_ok {fs : Array Field} : ∀ {l : List Nat} {k : Nat}, ftGo fs k l = true → ∀ (f τ : Nat), l[f]? = some τ → ∃ fd, fs[k + f]? = some fd ∧ fd.type = τ
  | [], k, _, f, τ, h => by simp at h
  | t :: r, k, hg, f, τ, h => by
    simp only [ftGo, Bool.and_eq_true] at hg
    cases f with
    | zero =>
      simp at h
      subst h
      cases hf : fs[k]? with
      | none => rw [hf] at hg; simp at hg
      | some fd => rw [hf] at hg; exact ⟨fd, rfl, by simpa using hg.1⟩
    | succ f =>
      obtain ⟨fd, h1, h2⟩ := ftGo_ok hg.2 f τ (by simpa using h)
      exact ⟨fd, by rw [← h1]; congr 1; omega, h2⟩
theorem ftB_ok {P : Program} {t : TypeId} {d : TypeDesc} (hd : P.underlying t = some d) {l : List Nat} (h : ftB d l = true) (f τ : Nat) (he : l[f]? = some τ) :
    ∃ (fs : Array Field) (fd : Field), P.underlying t = some (.struct fs) ∧ fs[f]? = some fd ∧ fd.type = τ := by
  unfold ftB at h
  cases l with
  | nil => simp at he
  | cons a r =>
    simp only [List.isEmpty_cons, Bool.false_or] at h
    split at h
    · rename_i fs
      obtain ⟨fd, h1, h2⟩ := ftGo_ok h f τ he
      exact ⟨fs, fd, hd, by simpa using h1, h2⟩
    · simp at h
def moreB (P : Program) (d : TypeDesc) (ti : TI) : Bool := ezB P d ti.ez && arrB P d ti.arr && kvB P d ti.kv && ikB d ti.ik && isBB P d ti.isB && ftB d ti.ft
theorem keyB_ok {P : Program} {k : Nat} {ke : TypeId} (h : keyB P k ke = true) : KeyOk P k ke := by
  unfold keyB at h
  split at h
  · rename_i i hu
    simp at h
    subst h
    exact ⟨fun _ => ⟨i, hu⟩, by simp, by simp, .inl rfl⟩
  · rename_i hu
    simp at h
    subst h
    exact ⟨by simp, fun _ => hu, by simp, .inr (.inl rfl)⟩
  · rename_i m e hu
    simp only [Bool.and_eq_true, beq_iff_eq] at h
    obtain ⟨⟨⟨rfl, rfl⟩, h3⟩, h4⟩ := h
    refine ⟨by simp, by simp, fun _ => ?_, .inr (.inr rfl)⟩
    cases hi : P.info? e with
    | none => rw [hi] at h4; simp at h4
    | some j =>
      rw [hi] at h4
      cases hue : P.underlying e with
      | none => rw [hue] at h3; simp at h3
      | some d =>
        rw [hue] at h3
        cases d <;> simp at h3
        rename_i i
        exact ⟨e, i, j, hu, hue, hi, by simpa using h4⟩
  · simp at h
def tiB (P : Program) (t : TypeId) (ti : TI) : Bool :=
  match P.info? t, P.underlying t with
  | some i, some d =>
    i.size == ti.size && zeroB ti i.zero && (ti.isAgg || ti.size == 1) && ti.isAgg == aggD d && eszB P d ti.esz &&
    (match d with | .struct fs => fldB P fs.toList ti.flds | _ => ti.flds.isEmpty) &&
    (!ti.isStr || (match d with | .string => true | _ => false)) && eqB P t d ti.eqk && moreB P d ti
  | _, _ => false

theorem fldB_get {P : Program} : ∀ {fs : List Field} {l : List (Nat × Nat)}, fldB P fs l = true → fs.length = l.length ∧
    ∀ k (hk : k < fs.length) (hk' : k < l.length), ∃ i, P.info? fs[k].type = some i ∧ l[k] = (fs[k].offset, i.size) ∧ i.size ≠ 0
  | [], [], _ => ⟨rfl, by simp⟩
  | f :: fs, (o, n) :: l, h => by
    simp only [fldB, Bool.and_eq_true] at h
    obtain ⟨h1, h2⟩ := h
    obtain ⟨g1, g2⟩ := fldB_get h2
    refine ⟨by simp [g1], fun k hk hk' => ?_⟩
    cases k with
    | zero =>
      cases hi : P.info? f.type with
      | none => rw [hi] at h1; simp at h1
      | some i =>
        rw [hi] at h1
        simp at h1
        obtain ⟨⟨rfl, rfl⟩, h3⟩ := h1
        exact ⟨i, hi, rfl, h3⟩
    | succ k => exact g2 k (by simpa using hk) (by simpa using hk')
  | [], _ :: _, h => by simp [fldB] at h
  | _ :: _, [], h => by simp [fldB] at h

theorem tiB_ok {P : Program} {t : TypeId} {ti : TI} (h : tiB P t ti = true) : TIok P t ti := by
  unfold tiB at h
  split at h
  · rename_i i d hi hd
    simp only [Bool.and_eq_true] at h
    obtain ⟨⟨⟨⟨⟨⟨⟨⟨h1, h2⟩, h3⟩, h4⟩, h5⟩, h6⟩, h7⟩, h8⟩, h9⟩ := h
    simp only [moreB, Bool.and_eq_true] at h9
    obtain ⟨⟨⟨⟨⟨m1, m2⟩, m3⟩, m4⟩, m5⟩, mft⟩ := h9
    refine ⟨?_, ⟨d, hd, by simpa using h4⟩, ?_, ?_, ?_, ?_, ?_, ?_, ?_, ?_, ?_, ?_, ftB_ok hd mft⟩
    · cases hz : i.zero with
      | none => rw [hz] at h2; simp [zeroB] at h2
      | some z =>
        rw [hz] at h2
        simp only [zeroB, Bool.and_eq_true, Bool.or_eq_true, Bool.not_eq_true'] at h2
        refine ⟨i, z, hi, by simpa using h1, hz, h2.1, fun ha => ?_, fun ha => ?_⟩
        · rcases h2.2 with h | h
          · rw [ha] at h; simp at h
          · cases z <;> simp at h
            exact ⟨_, rfl⟩
        · rw [ha] at h3
          simpa using h3
    · intro n b he
      rw [he] at h5
      simp only [eszB] at h5
      cases d <;> simp at h5
      rename_i e
      cases hj : P.info? e with
      | none => rw [hj] at h5; simp at h5
      | some j =>
        rw [hj] at h5
        simp at h5
        obtain ⟨⟨⟨⟨a1, a2⟩, a3⟩, a4⟩, a5⟩ := h5
        cases hz : j.zero with
        | none => rw [hz] at a3; simp at a3
        | some z =>
          rw [hz] at a3
          simp at a3
          exact ⟨e, j, z, hd, hj, a1, a2, hz, a3, a4, a5⟩
    · intro f off n hf
      cases d <;> simp at h6
      all_goals try (rw [h6] at hf; simp at hf; done)
      rename_i fs
      obtain ⟨g1, g2⟩ := fldB_get h6
      obtain ⟨hlt, he⟩ := List.getElem?_eq_some_iff.1 hf
      obtain ⟨j, k1, k2, k3⟩ := g2 f (by rw [g1]; exact hlt) hlt
      rw [he] at k2
      simp at k2
      obtain ⟨rfl, rfl⟩ := k2
      have hfl : f < fs.size := by have := g1; simp at this; omega
      refine ⟨fs, fs[f], j, hd, by simp [hfl], ?_, ?_, rfl, k3⟩
      · simp
      · simpa using k1
    · intro fs hfs k fd hk
      rw [hd] at hfs
      injection hfs with hfs
      subst hfs
      simp at h6
      obtain ⟨g1, g2⟩ := fldB_get h6
      obtain ⟨hlt, he⟩ := Array.getElem?_eq_some_iff.1 hk
      have hl2 : k < ti.flds.length := by rw [← g1]; simpa using hlt
      obtain ⟨j, k1, k2, k3⟩ := g2 k (by simpa using hlt) hl2
      simp only [Array.getElem_toList, he] at k1 k2
      exact ⟨j, k1, by rw [List.getElem?_eq_getElem hl2, k2]⟩
    · intro hs
      rw [hs] at h7
      cases d <;> simp at h7
      exact hd
    · exact eqB_ok hd h8
    · intro n b he hez
      simp only [ezB, Bool.or_eq_true, List.isEmpty_iff] at m1
      rcases m1 with m1 | m1
      · exact absurd m1 hez
      · cases d <;> simp at m1
        rename_i e
        cases hj : P.info? e with
        | none => rw [hj] at m1; simp at m1
        | some j =>
          rw [hj] at m1
          simp only at m1
          cases hz : j.zero with
          | none => rw [hz] at m1; simp at m1
          | some z =>
            rw [hz] at m1
            exact ⟨e, j, z, hd, hj, hz, m1⟩
    · intro n k he
      rw [he] at m2
      simp only [arrB] at m2
      cases d <;> simp at m2
      rename_i m e
      obtain ⟨rfl, m2⟩ := m2
      cases hj : P.info? e with
      | none => rw [hj] at m2; simp at m2
      | some j =>
        rw [hj] at m2
        exact ⟨e, j, hd, hj, by simpa using m2⟩
    · intro k z he
      rw [he] at m3
      simp only [kvB] at m3
      cases d <;> simp at m3
      rename_i ke e
      obtain ⟨⟨m3, m6⟩, m7⟩ := m3
      cases hj : P.info? e with
      | none => rw [hj] at m7; simp at m7
      | some j =>
        rw [hj] at m7
        simp only at m7
        cases hz : j.zero with
        | none => rw [hz] at m7; simp at m7
        | some zz =>
          rw [hz] at m7
          exact ⟨ke, e, j, zz, hd, keyB_ok m3, hj, hz, m7, m6⟩
    · intro k he
      rw [he] at m4
      simp only [ikB] at m4
      cases d <;> simp at m4
      rw [m4]
      exact hd
    · intro he
      rw [he] at m5
      simp only [isBB, Bool.not_true, Bool.false_or] at m5
      cases d <;> simp at m5
      rename_i e
      refine ⟨e, hd, ?_⟩
      cases hu : P.underlying e with
      | none => rw [hu] at m5; simp at m5
      | some d' =>
        rw [hu] at m5
        revert m5
        split
        · rename_i e'
          injection e' with e'
          intro _
          rw [e']
        · intro m5; simp at m5
  · simp at h

def tabT (l : List (Nat × TI)) (t : Nat) : Option TI := l.lookup t
theorem tab_ok {P : Program} {l : List (Nat × TI)} (h : (l.all fun x => tiB P x.1 x.2) = true) : TabOk P (tabT l) := by
  intro t ti ht
  have : (t, ti) ∈ l := by
    unfold tabT at ht
    induction l with
    | nil => simp at ht
    | cons x l ih =>
      obtain ⟨u, v⟩ := x
      simp only [List.lookup] at ht
      split at ht
      · rename_i he
        simp at he ht
        subst he; subst ht
        simp
      · simp only [List.all_cons, Bool.and_eq_true] at h
        exact List.mem_cons_of_mem _ (ih h.2 ht)
  exact tiB_ok (by simpa using List.all_eq_true.1 h _ this)
end Go.Ax
