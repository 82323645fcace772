/- A part of the proof of a law of this seat: no condition. -/
import Derived.Test.YtjabgfnljbnmmaaDoorA5
import Derived.Orders
import Derived.LoopN
set_option linter.unusedVariables false
set_option linter.unusedSimpArgs false
namespace Go.Ax
attribute [local simp] look_cons

/-- Two states that nobody can tell apart. -/
def Alike (a b : St) : Prop := (∀ t, a.tm t = b.tm t) ∧ ∀ o, a.ob o = b.ob o
def agree (l : List Wh) (a b : St) : Prop := (∀ t, Wh.t t ∈ l → a.tm t = b.tm t) ∧ ∀ o, Wh.o o ∈ l → a.ob o = b.ob o
theorem Alike.refl (a : St) : Alike a a := ⟨fun _ => rfl, fun _ => rfl⟩
theorem Alike.symm {a b : St} (h : Alike a b) : Alike b a := ⟨fun t => (h.1 t).symm, fun o => (h.2 o).symm⟩
theorem Alike.trans {a b c : St} (h : Alike a b) (h' : Alike b c) : Alike a c := ⟨fun t => (h.1 t).trans (h'.1 t), fun o => (h.2 o).trans (h'.2 o)⟩
theorem Alike.agree {a b : St} (h : Alike a b) (l : List Wh) : agree l a b := ⟨fun t _ => h.1 t, fun o _ => h.2 o⟩

section
variable {α : Type} {st st' st1 st2 : St}
theorem run_agree (x : Rd α) (h : agree (x.reads st) st st') : x.run st' = x.run st ∧ x.reads st' = x.reads st := by
 induction x with
 | ret a => exact ⟨rfl, rfl⟩
 | fail => exact ⟨rfl, rfl⟩
 | tm t k ih =>
  have ht : st.tm t = st'.tm t := h.1 t (by simp [Rd.reads])
  have := ih (st.tm t) ⟨fun u hu => h.1 u (by simp [Rd.reads, hu]), fun o ho => h.2 o (by simp [Rd.reads, ho])⟩
  simp only [Rd.run, Rd.reads, ← ht]
  exact ⟨this.1, by rw [this.2]⟩
 | ob o k ih =>
  have ht : st.ob o = st'.ob o := h.2 o (by simp [Rd.reads])
  have := ih (st.ob o) ⟨fun u hu => h.1 u (by simp [Rd.reads, hu]), fun o ho => h.2 o (by simp [Rd.reads, ho])⟩
  simp only [Rd.run, Rd.reads, ← ht]
  exact ⟨this.1, by rw [this.2]⟩
theorem app_tm_ne (l : List Wr) : ∀ (st : St) (t : Nat), Wh.t t ∉ l.map Wr.wh → (st.app l).tm t = st.tm t := by
 induction l with
 | nil => intro st t _; rfl
 | cons x l ih =>
  intro st t h
  simp at h
  cases x with
  | t u v =>
   simp only [St.app]
   rw [ih _ _ (by simpa using h.2), St.tm_put]
   have : u ≠ t := fun e => h.1 (by simp [Wr.wh, e])
   simp [this]
  | o u c =>
   simp only [St.app]
   rw [ih _ _ (by simpa using h.2)]
   rfl
theorem app_ob_ne (l : List Wr) : ∀ (st : St) (o : Oid), Wh.o o ∉ l.map Wr.wh → (st.app l).ob o = st.ob o := by
 induction l with
 | nil => intro st o _; rfl
 | cons x l ih =>
  intro st o h
  simp at h
  cases x with
  | t u v =>
   simp only [St.app]
   rw [ih _ _ (by simpa using h.2)]
   rfl
  | o u c =>
   simp only [St.app]
   rw [ih _ _ (by simpa using h.2), St.ob_putO]
   have : u ≠ o := fun e => h.1 (by simp [Wr.wh, e])
   simp [this]
/-- Writes onto states that are alike here stay alike here. -/
theorem app_tm_same (l : List Wr) : ∀ (a b : St) (t : Nat), (Wh.t t ∈ l.map Wr.wh ∨ a.tm t = b.tm t) → (a.app l).tm t = (b.app l).tm t := by
 induction l with
 | nil => intro a b t h; simpa [St.app] using h
 | cons x l ih =>
  intro a b t h
  rw [List.map_cons, List.mem_cons] at h
  cases x with
  | t u v =>
   simp only [St.app]
   refine ih _ _ _ ?_
   by_cases e : u = t
   ·right; simp [St.tm_put, e]
   ·rcases h with (h | h) | h
    ·simp only [Wr.wh, Wh.t.injEq] at h; exact absurd h.symm e
    ·left; exact h
    ·right; simp [St.tm_put, e, h]
  | o u c =>
   simp only [St.app]
   refine ih _ _ _ ?_
   rcases h with (h | h) | h
   ·simp [Wr.wh] at h
   ·left; exact h
   ·right; exact h
theorem app_ob_same (l : List Wr) : ∀ (a b : St) (o : Oid), (Wh.o o ∈ l.map Wr.wh ∨ a.ob o = b.ob o) → (a.app l).ob o = (b.app l).ob o := by
 induction l with
 | nil => intro a b o h; simpa [St.app] using h
 | cons x l ih =>
  intro a b o h
  rw [List.map_cons, List.mem_cons] at h
  cases x with
  | t u v =>
   simp only [St.app]
   refine ih _ _ _ ?_
   rcases h with (h | h) | h
   ·simp [Wr.wh] at h
   ·left; exact h
   ·right; exact h
  | o u c =>
   simp only [St.app]
   refine ih _ _ _ ?_
   by_cases e : u = o
   ·right; simp [St.ob_putO, e]
   ·rcases h with (h | h) | h
    ·simp only [Wr.wh, Wh.o.injEq] at h; exact absurd h.symm e
    ·left; exact h
    ·right; simp [St.ob_putO, e, h]
theorem Alike.app {a b : St} (h : Alike a b) (l : List Wr) : Alike (a.app l) (b.app l) :=
 ⟨fun t => app_tm_same l a b t (.inr (h.1 t)), fun o => app_ob_same l a b o (.inr (h.2 o))⟩
theorem meets_false {a b : List Wh} (h : meets a b = false) : ∀ x ∈ a, x ∉ b := by
 intro x hx hb
 simp only [meets, List.any_eq_false] at h
 have := h x hx
 simp at this
 exact this hb
theorem app_agree {l : List Wr} {r : List Wh} (h : ∀ x ∈ l.map Wr.wh, x ∉ r) (st : St) : agree r (st.app l) st :=
 ⟨fun t ht => app_tm_ne l st t (fun hx => h _ hx ht), fun o ho => app_ob_ne l st o (fun hx => h _ hx ho)⟩
theorem app_comm {l m : List Wr} (h : ∀ x ∈ l.map Wr.wh, x ∉ m.map Wr.wh) (st : St) : Alike ((st.app l).app m) ((st.app m).app l) := by
 constructor
 ·intro t
  by_cases h1 : Wh.t t ∈ m.map Wr.wh
  ·rw [app_tm_ne l (st.app m) t (fun hx => h _ hx h1)]
   exact app_tm_same m _ _ t (.inl h1)
  ·rw [app_tm_ne m _ t h1]
   exact app_tm_same l _ _ t (.inr (app_tm_ne m st t h1).symm)
 ·intro o
  by_cases h1 : Wh.o o ∈ m.map Wr.wh
  ·rw [app_ob_ne l (st.app m) o (fun hx => h _ hx h1)]
   exact app_ob_same m _ _ o (.inl h1)
  ·rw [app_ob_ne m _ o h1]
   exact app_ob_same l _ _ o (.inr (app_ob_ne m st o h1).symm)
end

/-- One operation: what it writes. -/
def stepW (C : Orc) (T : Nat → Option TI) (M : Mode) (ops : List Oper) (o : Oper) (st : St) (ws : List Wr) : Prop :=
 match (wanted ops o).run st with
 | some (some true) => match (opF T M o).run st with
  | some (.ws l) => ws = l
  | some (.call f args objs nw w) => ∃ r objs' news, C f args objs r objs' news ∧ news.length ≤ nw ∧ ws = back w r objs' news
  | none => False
 | some (some false) => ws = out o.dst (.tup [])
 | _ => False
def stepR (T : Nat → Option TI) (M : Mode) (ops : List Oper) (o : Oper) (st : St) : List Wh :=
 match (wanted ops o).run st with
 | some (some true) => (wanted ops o).reads st ++ (opF T M o).reads st
 | _ => (wanted ops o).reads st

section
variable {C : Orc} {T : Nat → Option TI} {M : Mode} {ops : List Oper}
theorem step_agree {o : Oper} {st st' : St} (h : agree (stepR T M ops o st) st st') (ws : List Wr) :
  (stepW C T M ops o st' ws ↔ stepW C T M ops o st ws) ∧ stepR T M ops o st' = stepR T M ops o st := by
 have h1 : agree ((wanted ops o).reads st) st st' := by
  unfold stepR at h
  split at h
  ·exact ⟨fun t ht => h.1 t (by simp [ht]), fun u hu => h.2 u (by simp [hu])⟩
  ·exact h
 obtain ⟨a1, a2⟩ := run_agree _ h1
 unfold stepW stepR
 rw [a1, a2]
 split
 ·rename_i hw
  have h2 : agree ((opF T M o).reads st) st st' := by
   unfold stepR at h
   rw [hw] at h
   exact ⟨fun t ht => h.1 t (by simp [ht]), fun u hu => h.2 u (by simp [hu])⟩
  obtain ⟨b1, b2⟩ := run_agree _ h2
  rw [b1, b2]
  exact ⟨Iff.rfl, rfl⟩
 ·rename_i hw
  rw [hw]
  exact ⟨Iff.rfl, rfl⟩
 ·rename_i h0 h1'
  refine ⟨Iff.rfl, ?_⟩
  split
  ·rename_i hw; exact absurd hw (by simpa using h0)
  ·rfl

/-- Operations by their places; R tells what each writes and where it looks. -/
def RunL (C : Orc) (T : Nat → Option TI) (M : Mode) (ops : List Oper) (R : Nat → List Wr × List Wh) : List Nat → St → St → Prop
 | [], st, st' => Alike st st'
 | i :: L, st, st' => ∃ o, ops[i]? = some o ∧ stepW C T M ops o st (R i).1 ∧ stepR T M ops o st = (R i).2 ∧ RunL C T M ops R L (st.app (R i).1) st'

variable {R : Nat → List Wr × List Wh}
theorem RunL.congr : ∀ (L : List Nat) {a b st' : St}, Alike a b → RunL C T M ops R L a st' → RunL C T M ops R L b st' := by
 intro L
 induction L with
 | nil => intro a b st' h hr; exact h.symm.trans hr
 | cons i L ih =>
  rintro a b st' h ⟨o, h1, h2, h3, h4⟩
  obtain ⟨g1, g2⟩ := step_agree (C := C) (T := T) (M := M) (ops := ops) (o := o) (h.agree _) (R i).1
  exact ⟨o, h1, g1.2 h2, g2.trans h3, ih (h.app _) h4⟩
def foot (R : Nat → List Wr × List Wh) (i : Nat) : Foot := ⟨(R i).2, (R i).1.map Wr.wh⟩
theorem RunL.swap {i j : Nat} {L : List Nat} {st st' : St} (hn : (foot R i).clash (foot R j) = false) (h : RunL C T M ops R (i :: j :: L) st st') : RunL C T M ops R (j :: i :: L) st st' := by
 obtain ⟨o, h1, h2, h3, o', k1, k2, k3, k4⟩ := h
 simp only [Foot.clash, foot, Bool.or_eq_false_iff] at hn
 obtain ⟨⟨n1, n2⟩, n3⟩ := hn
 have m1 := meets_false n1
 have m2 := meets_false n2
 have m3 := meets_false n3
 -- j at st
 have aj : agree (stepR T M ops o' (st.app (R i).1)) (st.app (R i).1) st := by rw [k3]; exact app_agree m1 st
 obtain ⟨g1, g2⟩ := step_agree (C := C) (T := T) (M := M) (ops := ops) (o := o') aj (R j).1
 -- i behind j
 have ai : agree (stepR T M ops o st) st (st.app (R j).1) := by
  rw [h3]
  have := app_agree (l := (R j).1) (r := (R i).2) m3 st
  exact ⟨fun t ht => (this.1 t ht).symm, fun u hu => (this.2 u hu).symm⟩
 obtain ⟨f1, f2⟩ := step_agree (C := C) (T := T) (M := M) (ops := ops) (o := o) ai (R i).1
 exact ⟨o', k1, g1.2 k2, g2.trans k3, o, h1, f1.2 h2, f2.trans h3, RunL.congr L (app_comm m2 st) k4⟩
/-- What a load writes. -/
def ldWr (T : Nat → Option TI) (M : Mode) (t : Nat) (dst : Option Nat) (a : V) (ob : Oid → Option Ob) : Option (List Wr) :=
 match T t with
 | none => none
 | some ti => match a with
  | .eptr cs off => (getS ti cs off).map fun v => out dst v.weak
  | .ref u off => match ob u with
   | some (.cells row cs) => match getS ti cs off with
    | some v => if (dst.map M.steal).getD false && v.isOwn then some (.o u (.cells row (cs.set off v.weak)) :: out dst v) else some (out dst v.weak)
    | none => none
   | _ => none
  | _ => none
def ldVal (x : Operand) (st : St) : Option V :=
 match x with
 | .tmp t => some (st.tm t)
 | .const v => some (ofConst v)
 | .func f => some (.fn f)
 | .global _ => none
def ldRd (T : Nat → Option TI) (t : Nat) (x : Operand) (st : St) : List Wh :=
 match T t with
 | none => []
 | some _ => (match x with | .tmp t => [Wh.t t] | _ => []) ++ (match ldVal x st with | some (.ref u _) => [Wh.o u] | _ => [])
theorem ld_step {o : Oper} {t : Nat} {x : Operand} (ho : o.op = .load t x) (hg : o.guard = none) (st : St) (ws : List Wr) :
  (stepW C T M ops o st ws ↔ ((ldVal x st).bind fun a => ldWr T M t o.dst a st.ob) = some ws) ∧ stepR T M ops o st = ldRd T t x st := by
 obtain ⟨dst, op, type, pos, after, guard⟩ := o
 simp only at ho hg
 subst ho; subst hg
 simp only [stepW, stepR, wanted, Rd.run, Rd.reads, List.nil_append, opF, opS, ldWr, ldRd]
 cases hT : T t with
 | none =>
  refine ⟨?_, rfl⟩
  cases ldVal x st <;> simp [rOpt, bind, Rd.bind, Rd.run]
 | some ti =>
  have key : ∀ (a : V) (pre : List Wh), (match (Rd.bind (match a with
     | .eptr cs off => do
      let v ← rOpt (getS ti cs off)
      pure (Ws.ws (out dst v.weak))
     | .ref u off => do
      .ob u fun
      | some (.cells row cs) => do
       let v ← rOpt (getS ti cs off)
       if (dst.map M.steal).getD false && v.isOwn then pure (Ws.ws (.o u (.cells row (cs.set off v.weak)) :: out dst v)) else pure (Ws.ws (out dst v.weak))
      | _ => .fail
     | _ => .fail) fun x => match x with | .ws l => (.ret (Res.ws l) : Rd Res)).run st with
    | some (.ws l) => ws = l
    | some (.call f args objs nw w) => ∃ r objs' news, C f args objs r objs' news ∧ news.length ≤ nw ∧ ws = back w r objs' news
    | none => False) ↔ (match a with
      | .eptr cs off => (getS ti cs off).map fun v => out dst v.weak
      | .ref u off => match st.ob u with
       | some (.cells row cs) => match getS ti cs off with
        | some v => if (dst.map M.steal).getD false && v.isOwn then some (.o u (.cells row (cs.set off v.weak)) :: out dst v) else some (out dst v.weak)
        | none => none
       | _ => none
      | _ => none) = some ws := by
   intro a pre
   cases a <;> try (simp [Rd.bind, Rd.run]; done)
   case ref u off =>
    simp only [Rd.bind, Rd.run, bind]
    cases hu : st.ob u with
    | none => simp [Rd.bind, Rd.run]
    | some y => cases y with
     | cells row cs =>
      simp only
      cases hv : getS ti cs off with
      | none => simp [rOpt, Rd.bind, Rd.run]
      | some v =>
       simp only [rOpt, Rd.bind]
       by_cases hc : ((dst.map M.steal).getD false && v.isOwn) = true
       ·simp only [if_pos hc, pure, Rd.bind, Rd.run]
        exact ⟨fun h => by rw [h], fun h => by injection h with h; exact h.symm⟩
       ·simp only [if_neg hc, pure, Rd.bind, Rd.run]
        exact ⟨fun h => by rw [h], fun h => by injection h with h; exact h.symm⟩
     | _ => simp [Rd.bind, Rd.run]
   case eptr cs off =>
    simp only [bind]
    cases hv : getS ti cs off with
    | none => simp [rOpt, Rd.bind, Rd.run]
    | some v =>
     simp only [rOpt, pure, Rd.bind, Rd.run, Option.map_some]
     exact ⟨fun h => by rw [h], fun h => by injection h with h; exact h.symm⟩
  have key2 : ∀ (a : V), (Rd.bind (match a with
     | .eptr cs off => do
      let v ← rOpt (getS ti cs off)
      pure (Ws.ws (out dst v.weak))
     | .ref u off => do
      .ob u fun
      | some (.cells row cs) => do
       let v ← rOpt (getS ti cs off)
       if (dst.map M.steal).getD false && v.isOwn then pure (Ws.ws (.o u (.cells row (cs.set off v.weak)) :: out dst v)) else pure (Ws.ws (out dst v.weak))
      | _ => .fail
     | _ => .fail) fun x => match x with | .ws l => (.ret (Res.ws l) : Rd Res)).reads st = (match (some a) with | some (.ref u _) => [Wh.o u] | _ => []) := by
   intro a
   cases a <;> try (simp [Rd.bind, Rd.reads]; done)
   case ref u off =>
    simp only [Rd.bind, Rd.reads, bind]
    cases hu : st.ob u with
    | none => simp [Rd.bind, Rd.reads]
    | some y => cases y with
     | cells row cs =>
      simp only
      cases hv : getS ti cs off with
      | none => simp [rOpt, Rd.bind, Rd.reads]
      | some v =>
       simp only [rOpt, Rd.bind]
       by_cases hc : ((dst.map M.steal).getD false && v.isOwn) = true
       ·simp only [if_pos hc, pure, Rd.bind, Rd.reads]
       ·simp only [if_neg hc, pure, Rd.bind, Rd.reads]
     | _ => simp [Rd.bind, Rd.reads]
   case eptr cs off =>
    simp only [bind]
    cases hv : getS ti cs off with
    | none => simp [rOpt, Rd.bind, Rd.reads]
    | some v => simp only [rOpt, pure, Rd.bind, Rd.reads]
  cases x with
  | tmp t => exact ⟨key (st.tm t) [], congrArg (List.cons (Wh.t t)) (key2 (st.tm t))⟩
  | const v => exact ⟨key (ofConst v) [], key2 (ofConst v)⟩
  | func f => exact ⟨key (.fn f) [], key2 (.fn f)⟩
  | global g => exact ⟨by simp [ldVal, ev, rOpt, bind, Rd.bind, Rd.run], rfl⟩
theorem getS_weak {ti : TI} {cs : List V} {k : Nat} {x : V} (hk : cs[k]? = some x) (hx : x.isOwn = true) (off : Nat) : (getS ti (cs.set k x.weak) off).map V.weak = (getS ti cs off).map V.weak := by
 have hw1 : x.weak.weak1 = x.weak1 := by cases x <;> simp_all [V.isOwn, V.weak, V.weak1]
 have hw : x.weak.weak = x.weak := by cases x <;> simp_all [V.isOwn, V.weak, V.weak1]
 have hkl : k < cs.length := (List.getElem?_eq_some_iff.1 hk).1
 unfold getS
 by_cases ha : ti.isAgg = true
 ·simp only [if_pos ha, List.length_set]
  by_cases hl : off + ti.size ≤ cs.length
  ·simp only [if_pos hl, Option.map_some]
   show some (V.agg (List.map V.weak1 (((cs.set k x.weak).drop off).take ti.size))) = some (V.agg (List.map V.weak1 ((cs.drop off).take ti.size)))
   congr 2
   rw [List.map_take, List.map_drop, List.map_take, List.map_drop]
   congr 2
   rw [List.map_set, hw1]
   apply List.ext_getElem?
   intro i
   rw [List.getElem?_set]
   split
   ·rename_i e; subst e
    have hx2 : cs[k] = x := (List.getElem?_eq_some_iff.1 hk).2
    simp [hkl, hx2]
   ·rfl
  ·simp only [if_neg hl]
 ·simp only [if_neg ha, List.getElem?_set]
  by_cases e : k = off
  ·subst e
   have hx2 : cs[k] = x := (List.getElem?_eq_some_iff.1 hk).2
   simp [hkl, hw, hx2]
  ·simp [e]
/-- What a look into a map tells. -/
def lkAt (T : Nat → Option TI) (t x k : Nat) (st : St) (ti : TI) (kd : Nat) (z : V) (u : Oid) (b : Nat) (l : List (V × V)) (r : Option (Nat × V)) : Prop :=
 T t = some ti ∧ ti.kv = some (kd, z) ∧ st.tm x = .mp u ∧ st.ob u = some (.map b l) ∧ (∃ q, eqKey kd (st.tm k) (st.tm k) = some q) ∧ findS kd (st.tm k) l 0 = some r
theorem lk_step {o : Oper} {t x k : Nat} (ho : o.op = .lookup t (.tmp x) (.tmp k) false) (hg : o.guard = none) (st : St) (ws : List Wr) :
  (stepW C T M ops o st ws ↔ ∃ ti kd z u b l r, lkAt T t x k st ti kd z u b l r ∧ ws = out o.dst (valOf z.weak r)) ∧
  ((∃ ti kd z u b l r, lkAt T t x k st ti kd z u b l r ∧ (stepR T M ops o st = [.t x, .t k, .o u])) ∨ ¬ ∃ ti kd z u b l r, lkAt T t x k st ti kd z u b l r) := by
 obtain ⟨dst, op, type, pos, after, guard⟩ := o
 simp only at ho hg
 subst ho; subst hg
 have fwd : ∀ ti kd z u b l r, lkAt T t x k st ti kd z u b l r → (opF T M (⟨dst, .lookup t (.tmp x) (.tmp k) false, type, pos, after, none⟩ : Oper)).run st = some (.ws (out dst (valOf z.weak r))) ∧
   (opF T M (⟨dst, .lookup t (.tmp x) (.tmp k) false, type, pos, after, none⟩ : Oper)).reads st = [.t x, .t k, .o u] := by
  rintro ti kd z u b l r ⟨h1, h2, h3, h4, ⟨q, h5⟩, h6⟩
  constructor
  ·simp [opF, opS, ev, rOpt, bind, Rd.bind, Rd.run, pure, h1, h2, h3, h4, h5, h6]
  ·simp [opF, opS, ev, rOpt, bind, Rd.bind, Rd.reads, pure, h1, h2, h3, h4, h5, h6]
 have bwd : ∀ res, (opF T M (⟨dst, .lookup t (.tmp x) (.tmp k) false, type, pos, after, none⟩ : Oper)).run st = some res → ∃ ti kd z u b l r, lkAt T t x k st ti kd z u b l r := by
  intro res h
  simp only [opF] at h
  obtain ⟨⟨lw⟩, h, _⟩ := rd_bind _ _ _ h
  unfold opS at h
  simp only at h
  replace h := rd_bind _ _ _ h
  obtain ⟨ti, hti, h⟩ := h
  have hti := rd_rOpt hti
  replace h := rd_bind _ _ _ h
  obtain ⟨vm, hm, h⟩ := h
  replace h := rd_bind _ _ _ h
  obtain ⟨vk, hk, h⟩ := h
  replace h := rd_bind _ _ _ h
  obtain ⟨⟨kd, z⟩, hkv, h⟩ := h
  have hkv := rd_rOpt hkv
  simp only [ev, Rd.run, Option.some.injEq] at hm hk
  dsimp only at h
  split at h
  ·rename_i u
   simp only [Rd.run] at h
   split at h
   ·rename_i b l hob
    replace h := rd_bind _ _ _ h
    obtain ⟨b0, hb0, h⟩ := h
    replace h := rd_bind _ _ _ h
    obtain ⟨r, hf, h⟩ := h
    have hb0 := rd_rOpt hb0
    have hf := rd_rOpt hf
    subst hk
    exact ⟨ti, kd, z, u, b, l, r, hti, hkv, hm, hob, ⟨b0, hb0⟩, hf⟩
   ·simp [Rd.run] at h
  ·simp [Rd.run] at h
 have hw : wanted ops (⟨dst, .lookup t (.tmp x) (.tmp k) false, type, pos, after, none⟩ : Oper) = .ret (some true) := rfl
 constructor
 ·unfold stepW
  rw [hw]
  simp only [Rd.run]
  constructor
  ·intro h
   cases hr : (opF T M (⟨dst, .lookup t (.tmp x) (.tmp k) false, type, pos, after, none⟩ : Oper)).run st with
   | none => rw [hr] at h; exact h.elim
   | some res =>
    obtain ⟨ti, kd, z, u, b, l, r, hl⟩ := bwd res hr
    rw [(fwd _ _ _ _ _ _ _ hl).1] at h
    exact ⟨ti, kd, z, u, b, l, r, hl, h⟩
  ·rintro ⟨ti, kd, z, u, b, l, r, hl, rfl⟩
   rw [(fwd _ _ _ _ _ _ _ hl).1]
 ·by_cases he : ∃ ti kd z u b l r, lkAt T t x k st ti kd z u b l r
  ·left
   obtain ⟨ti, kd, z, u, b, l, r, hl⟩ := he
   refine ⟨ti, kd, z, u, b, l, r, hl, ?_⟩
   unfold stepR
   rw [hw]
   simp only [Rd.run, Rd.reads, List.nil_append]
   exact (fwd _ _ _ _ _ _ _ hl).2
  ·exact .inr he
theorem me_step {o : Oper} {t x k : Nat} (ho : o.op = .mapEntry t (.tmp x) (.tmp k)) (hg : o.guard = none) (st : St) (ws : List Wr) :
  (stepW C T M ops o st ws ↔ ∃ ti kd z u b l r, lkAt T t x k st ti kd z u b l r ∧ ws = .o u (.map b (putS l (st.tm k) (valOf z.weak r) r)) :: out o.dst (.tup [valOf z.weak r, .int .i64 ((b + idxOf l.length r : Nat) : Int)])) ∧
  ((∃ ti kd z u b l r, lkAt T t x k st ti kd z u b l r ∧ (stepR T M ops o st = [.t x, .t k, .o u])) ∨ ¬ ∃ ti kd z u b l r, lkAt T t x k st ti kd z u b l r) := by
 obtain ⟨dst, op, type, pos, after, guard⟩ := o
 simp only at ho hg
 subst ho; subst hg
 have fwd : ∀ ti kd z u b l r, lkAt T t x k st ti kd z u b l r → (opF T M (⟨dst, .mapEntry t (.tmp x) (.tmp k), type, pos, after, none⟩ : Oper)).run st = some (.ws (.o u (.map b (putS l (st.tm k) (valOf z.weak r) r)) :: out dst (.tup [valOf z.weak r, .int .i64 ((b + idxOf l.length r : Nat) : Int)]))) ∧
   (opF T M (⟨dst, .mapEntry t (.tmp x) (.tmp k), type, pos, after, none⟩ : Oper)).reads st = [.t x, .t k, .o u] := by
  rintro ti kd z u b l r ⟨h1, h2, h3, h4, ⟨q, h5⟩, h6⟩
  constructor
  ·simp [opF, opS, ev, rOpt, bind, Rd.bind, Rd.run, pure, h1, h2, h3, h4, h5, h6]
  ·simp [opF, opS, ev, rOpt, bind, Rd.bind, Rd.reads, pure, h1, h2, h3, h4, h5, h6]
 have bwd : ∀ res, (opF T M (⟨dst, .mapEntry t (.tmp x) (.tmp k), type, pos, after, none⟩ : Oper)).run st = some res → ∃ ti kd z u b l r, lkAt T t x k st ti kd z u b l r := by
  intro res h
  simp only [opF] at h
  obtain ⟨⟨lw⟩, h, _⟩ := rd_bind _ _ _ h
  unfold opS at h
  simp only at h
  replace h := rd_bind _ _ _ h
  obtain ⟨ti, hti, h⟩ := h
  have hti := rd_rOpt hti
  replace h := rd_bind _ _ _ h
  obtain ⟨vm, hm, h⟩ := h
  replace h := rd_bind _ _ _ h
  obtain ⟨vk, hk, h⟩ := h
  replace h := rd_bind _ _ _ h
  obtain ⟨⟨kd, z⟩, hkv, h⟩ := h
  have hkv := rd_rOpt hkv
  simp only [ev, Rd.run, Option.some.injEq] at hm hk
  dsimp only at h
  split at h
  ·rename_i u
   simp only [Rd.run] at h
   split at h
   ·rename_i b l hob
    replace h := rd_bind _ _ _ h
    obtain ⟨b0, hb0, h⟩ := h
    replace h := rd_bind _ _ _ h
    obtain ⟨r, hf, h⟩ := h
    have hb0 := rd_rOpt hb0
    have hf := rd_rOpt hf
    subst hk
    exact ⟨ti, kd, z, u, b, l, r, hti, hkv, hm, hob, ⟨b0, hb0⟩, hf⟩
   ·simp [Rd.run] at h
  ·simp [Rd.run] at h
 have hw : wanted ops (⟨dst, .mapEntry t (.tmp x) (.tmp k), type, pos, after, none⟩ : Oper) = .ret (some true) := rfl
 constructor
 ·unfold stepW
  rw [hw]
  simp only [Rd.run]
  constructor
  ·intro h
   cases hr : (opF T M (⟨dst, .mapEntry t (.tmp x) (.tmp k), type, pos, after, none⟩ : Oper)).run st with
   | none => rw [hr] at h; exact h.elim
   | some res =>
    obtain ⟨ti, kd, z, u, b, l, r, hl⟩ := bwd res hr
    rw [(fwd _ _ _ _ _ _ _ hl).1] at h
    exact ⟨ti, kd, z, u, b, l, r, hl, h⟩
  ·rintro ⟨ti, kd, z, u, b, l, r, hl, rfl⟩
   rw [(fwd _ _ _ _ _ _ _ hl).1]
 ·by_cases he : ∃ ti kd z u b l r, lkAt T t x k st ti kd z u b l r
  ·left
   obtain ⟨ti, kd, z, u, b, l, r, hl⟩ := he
   refine ⟨ti, kd, z, u, b, l, r, hl, ?_⟩
   unfold stepR
   rw [hw]
   simp only [Rd.run, Rd.reads, List.nil_append]
   exact (fwd _ _ _ _ _ _ _ hl).2
  ·exact .inr he
theorem eqKey_true {kd : Nat} {K : V} {q : Bool} (h : eqKey kd K K = some q) : q = true := by
 unfold eqKey at h
 split at h <;> simp_all
theorem find_put0 {kd : Nat} {K w : V} : ∀ {l : List (V × V)} {i : Nat}, findS kd K l i = some none → eqKey kd K K = some true → findS kd K (l ++ [(K, w)]) i = some (some (i + l.length, w))
 | [], i, _, h => by simp only [List.nil_append, findS, h]; rfl
 | e :: l, i, h, hk => by
  simp only [findS] at h
  split at h
  ·simp at h
  ·rename_i he
   simp only [List.cons_append, findS, he]
   rw [find_put0 h hk]
   simp only [List.length_cons]
   congr 3
   omega
  ·simp at h
theorem find_put1 {kd : Nat} {K v : V} : ∀ {l : List (V × V)} {i j : Nat}, findS kd K l i = some (some (j, v)) → eqKey kd K K = some true → i ≤ j ∧ findS kd K (l.modify (j - i) fun _ => (K, v)) i = some (some (j, v))
 | [], i, j, h, _ => by simp [findS] at h
 | e :: l, i, j, h, hk => by
  simp only [findS] at h
  split at h
  ·simp only [Option.some.injEq, Prod.mk.injEq] at h
   obtain ⟨rfl, rfl⟩ := h
   refine ⟨Nat.le_refl _, ?_⟩
   rw [Nat.sub_self]
   simp only [List.modify_zero_cons, findS, hk]
  ·rename_i he
   obtain ⟨h1, h2⟩ := find_put1 h hk
   refine ⟨by omega, ?_⟩
   obtain ⟨m, hm⟩ : ∃ m, j - i = m + 1 := ⟨j - i - 1, by omega⟩
   rw [hm]
   simp only [List.modify_succ_cons, findS, he]
   rw [show j - (i + 1) = m by omega] at h2
   exact h2
  ·simp at h
theorem lkAt.uniq {T : Nat → Option TI} {t x k : Nat} {st : St} {ti ti' kd kd' z z' u u' b b' l l' r r'} (h : lkAt T t x k st ti kd z u b l r) (h' : lkAt T t x k st ti' kd' z' u' b' l' r') :
  kd = kd' ∧ z = z' ∧ u = u' ∧ b = b' ∧ l = l' ∧ r = r' := by
 obtain ⟨h1, h2, h3, h4, _, h6⟩ := h
 obtain ⟨g1, g2, g3, g4, _, g6⟩ := h'
 rw [h1] at g1; injection g1 with g1; subst g1
 rw [h2] at g2; injection g2 with g2; injection g2 with g2 g2'; subst g2; subst g2'
 rw [h3] at g3; injection g3 with g3; subst g3
 rw [h4] at g4; injection g4 with g4; injection g4 with g4 g4'; subst g4; subst g4'
 rw [h6] at g6; injection g6 with g6; subst g6
 exact ⟨rfl, rfl, rfl, rfl, rfl, rfl⟩
theorem lkAt.tms {T : Nat → Option TI} {t x k : Nat} {st st' : St} {ti kd z u b l r} (h : lkAt T t x k st ti kd z u b l r) (h1 : st'.tm x = st.tm x) (h2 : st'.tm k = st.tm k) (h3 : st'.ob u = st.ob u) : lkAt T t x k st' ti kd z u b l r := by
 obtain ⟨g1, g2, g3, g4, g5, g6⟩ := h
 exact ⟨g1, g2, h1.trans g3, h3.trans g4, by rw [h2]; exact g5, by rw [h2]; exact g6⟩
theorem lkAt.put {T : Nat → Option TI} {t x k : Nat} {st st' : St} {ti kd z u b l r} (h : lkAt T t x k st ti kd z u b l r) (h1 : st'.tm x = st.tm x) (h2 : st'.tm k = st.tm k)
  (h3 : st'.ob u = some (.map b (putS l (st.tm k) (valOf z.weak r) r))) : ∃ r', lkAt T t x k st' ti kd z u b (putS l (st.tm k) (valOf z.weak r) r) r' ∧ valOf z.weak r' = valOf z.weak r := by
 obtain ⟨g1, g2, g3, g4, ⟨q, g5⟩, g6⟩ := h
 have hq := eqKey_true g5
 subst hq
 cases r with
 | none =>
  refine ⟨some (0 + l.length, z.weak), ⟨g1, g2, h1.trans g3, h3, by rw [h2]; exact ⟨_, g5⟩, ?_⟩, rfl⟩
  rw [h2]
  exact find_put0 g6 g5
 | some p =>
  obtain ⟨j, v⟩ := p
  refine ⟨some (j, v), ⟨g1, g2, h1.trans g3, h3, by rw [h2]; exact ⟨_, g5⟩, ?_⟩, rfl⟩
  rw [h2]
  exact (find_put1 g6 g5).2
/-- A look into a map, and its entry. -/
theorem RunL.swapM1 {i j t x k d e : Nat} {L : List Nat} {st st' : St} {o o' : Oper} (h1 : ops[i]? = some o) (k1 : ops[j]? = some o') (ho : o.op = .lookup t (.tmp x) (.tmp k) false) (ho' : o'.op = .mapEntry t (.tmp x) (.tmp k))
  (hg : o.guard = none) (hg' : o'.guard = none) (hd : o.dst = some d) (he : o'.dst = some e) (n1 : d ≠ e) (n2 : x ≠ e) (n3 : k ≠ e) (n4 : x ≠ d) (n5 : k ≠ d) :
  (RunL C T M ops R (i :: j :: L) st st' → RunL C T M ops R (j :: i :: L) st st') ∧ (RunL C T M ops R (j :: i :: L) st st' → RunL C T M ops R (i :: j :: L) st st') := by
 have tmO : ∀ (s : St) (c : Nat) (v : V) (y : Nat), y ≠ c → (s.app [.t c v]).tm y = s.tm y := fun s c v y h => by
  show (s.put c v).tm y = _
  rw [St.tm_put, if_neg (fun e => h e.symm)]
 have tmO2 : ∀ (s : St) (u : Oid) (X : Ob) (c : Nat) (v : V) (y : Nat), y ≠ c → (s.app [.o u X, .t c v]).tm y = s.tm y := fun s u X c v y h => by
  show ((s.putO u X).put c v).tm y = _
  rw [St.tm_put, if_neg (fun e => h e.symm), St.tm_putO]
 have obO2 : ∀ (s : St) (u : Oid) (X : Ob) (c : Nat) (v : V), (s.app [.o u X, .t c v]).ob u = some X := fun s u X c v => by
  show ((s.putO u X).put c v).ob u = _
  rw [St.ob_put, St.ob_putO, if_pos rfl]
 have rd1 : ∀ (s : St) {ti kd z u b l r}, lkAt T t x k s ti kd z u b l r → stepR T M ops o s = [.t x, .t k, .o u] := fun s ti kd z u b l r h => by
  rcases (lk_step (C := C) (M := M) (ops := ops) ho hg s []).2 with ⟨_, _, _, _, _, _, _, g, e⟩ | g
  ·rw [e, (h.uniq g).2.2.1]
  ·exact absurd ⟨_, _, _, _, _, _, _, h⟩ g
 have rd2 : ∀ (s : St) {ti kd z u b l r}, lkAt T t x k s ti kd z u b l r → stepR T M ops o' s = [.t x, .t k, .o u] := fun s ti kd z u b l r h => by
  rcases (me_step (C := C) (M := M) (ops := ops) ho' hg' s []).2 with ⟨_, _, _, _, _, _, _, g, e⟩ | g
  ·rw [e, (h.uniq g).2.2.1]
  ·exact absurd ⟨_, _, _, _, _, _, _, h⟩ g
 have comm : ∀ (u : Oid) (X : Ob) (v w : V) (s : St), Alike ((s.app [.t d v]).app [.o u X, .t e w]) ((s.app [.o u X, .t e w]).app [.t d v]) := fun u X v w s => by
  refine app_comm ?_ s
  intro z hz hz'
  simp [Wr.wh] at hz hz'
  rw [hz] at hz'
  simp at hz'
  exact n1 hz'
 constructor
 ·rintro ⟨p, q1, q2, q3, p', r1, r2, r3, r4⟩
  obtain rfl : p = o := by rw [h1] at q1; injection q1 with q1; exact q1.symm
  obtain rfl : p' = o' := by rw [k1] at r1; injection r1 with r1; exact r1.symm
  obtain ⟨ti, kd, z, u, b, l, r, hl, hw⟩ := (lk_step ho hg _ _).1.1 q2
  rw [hd] at hw
  have hw : (R i).1 = [.t d (valOf z.weak r)] := hw
  rw [hw] at r2 r3 r4
  have hl1 := hl.tms (st' := st.app [.t d (valOf z.weak r)]) (tmO _ _ _ _ n4) (tmO _ _ _ _ n5) rfl
  obtain ⟨ti', kd', z', u', b', l', r', hl', hw'⟩ := (me_step ho' hg' _ _).1.1 r2
  obtain ⟨rfl, rfl, rfl, rfl, rfl, rfl⟩ := hl1.uniq hl'
  rw [he, tmO _ _ _ _ n5] at hw'
  have hw' : (R j).1 = [.o u (.map b (putS l (st.tm k) (valOf z.weak r) r)), .t e (.tup [valOf z.weak r, .int .i64 ((b + idxOf l.length r : Nat) : Int)])] := hw'
  refine ⟨p', k1, (me_step ho' hg' _ _).1.2 ⟨ti, kd, z, u, b, l, r, hl, by rw [he]; exact hw'⟩, ?_, p, h1, ?_, ?_, ?_⟩
  ·rw [← r3, rd2 _ hl, rd2 _ hl1]
  ·obtain ⟨r2', g1, g2⟩ := hl.put (st' := st.app (R j).1) (by rw [hw']; exact tmO2 _ _ _ _ _ _ n2) (by rw [hw']; exact tmO2 _ _ _ _ _ _ n3) (by rw [hw']; exact obO2 _ _ _ _ _)
   exact (lk_step ho hg _ _).1.2 ⟨_, _, _, _, _, _, _, g1, by rw [hd, g2, hw]; rfl⟩
  ·obtain ⟨r2', g1, g2⟩ := hl.put (st' := st.app (R j).1) (by rw [hw']; exact tmO2 _ _ _ _ _ _ n2) (by rw [hw']; exact tmO2 _ _ _ _ _ _ n3) (by rw [hw']; exact obO2 _ _ _ _ _)
   rw [rd1 _ g1, ← q3, rd1 _ hl]
  ·rw [hw, hw']
   rw [hw'] at r4
   exact RunL.congr L (comm _ _ _ _ st) r4
 ·rintro ⟨p', r1, r2, r3, p, q1, q2, q3, r4⟩
  obtain rfl : p = o := by rw [h1] at q1; injection q1 with q1; exact q1.symm
  obtain rfl : p' = o' := by rw [k1] at r1; injection r1 with r1; exact r1.symm
  obtain ⟨ti, kd, z, u, b, l, r, hl, hw'⟩ := (me_step ho' hg' _ _).1.1 r2
  rw [he] at hw'
  have hw' : (R j).1 = [.o u (.map b (putS l (st.tm k) (valOf z.weak r) r)), .t e (.tup [valOf z.weak r, .int .i64 ((b + idxOf l.length r : Nat) : Int)])] := hw'
  rw [hw'] at q2 q3 r4
  obtain ⟨r2', g1, g2⟩ := hl.put (st' := st.app [.o u (.map b (putS l (st.tm k) (valOf z.weak r) r)), .t e (.tup [valOf z.weak r, .int .i64 ((b + idxOf l.length r : Nat) : Int)])]) (tmO2 _ _ _ _ _ _ n2) (tmO2 _ _ _ _ _ _ n3) (obO2 _ _ _ _ _)
  obtain ⟨ti', kd', z', u', b', l', r', hl', hw⟩ := (lk_step ho hg _ _).1.1 q2
  obtain ⟨rfl, rfl, rfl, rfl, rfl, rfl⟩ := g1.uniq hl'
  rw [hd, g2] at hw
  have hw : (R i).1 = [.t d (valOf z.weak r)] := hw
  have hl1 := hl.tms (st' := st.app [.t d (valOf z.weak r)]) (tmO _ _ _ _ n4) (tmO _ _ _ _ n5) rfl
  refine ⟨p, h1, (lk_step ho hg _ _).1.2 ⟨_, _, _, _, _, _, _, hl, by rw [hd]; exact hw⟩, ?_, p', k1, ?_, ?_, ?_⟩
  ·rw [← q3, rd1 _ g1, rd1 _ hl]
  ·rw [hw]
   exact (me_step ho' hg' _ _).1.2 ⟨_, _, _, _, _, _, _, hl1, by rw [he, tmO _ _ _ _ n5]; exact hw'⟩
  ·rw [hw, rd2 _ hl1, ← r3, rd2 _ hl]
  ·rw [hw, hw']
   rw [hw] at r4
   exact RunL.congr L (comm _ _ _ _ st).symm r4
/-- Two loads in turn. -/
theorem RunL.swapF {i j : Nat} {L : List Nat} {st st' : St} (hf : freeAt M ops i j = true) (h : RunL C T M ops R (i :: j :: L) st st') : RunL C T M ops R (j :: i :: L) st st' := by
 obtain ⟨o, h1, h2, h3, o', k1, k2, k3, k4⟩ := h
 simp only [freeAt, h1, k1] at hf
 unfold freeP at hf
 split at hf
 case h_4 => simp at hf
 case h_2 =>
  rename_i t x k t' x' k' ho ho'
  simp only [Bool.and_eq_true, Option.isNone_iff_eq_none, beq_iff_eq] at hf
  obtain ⟨⟨⟨⟨⟨hg, hg'⟩, rfl⟩, rfl⟩, rfl⟩, hf⟩ := hf
  split at hf
  ·rename_i d e hd he
   simp only [Bool.and_eq_true, bne_iff_ne, ne_eq] at hf
   obtain ⟨⟨⟨⟨n1, n2⟩, n3⟩, n4⟩, n5⟩ := hf
   exact (RunL.swapM1 h1 k1 ho ho' hg hg' hd he n1 n2 n3 n4 n5).1 ⟨o, h1, h2, h3, o', k1, k2, k3, k4⟩
  ·simp at hf
 case h_3 =>
  rename_i t' x' k' t x k ho ho'
  simp only [Bool.and_eq_true, Option.isNone_iff_eq_none, beq_iff_eq] at hf
  obtain ⟨⟨⟨⟨⟨hg, hg'⟩, rfl⟩, rfl⟩, rfl⟩, hf⟩ := hf
  split at hf
  ·rename_i d e hd he
   simp only [Bool.and_eq_true, bne_iff_ne, ne_eq] at hf
   obtain ⟨⟨⟨⟨n1, n2⟩, n3⟩, n4⟩, n5⟩ := hf
   exact (RunL.swapM1 k1 h1 ho' ho hg' hg he hd (fun h => n1 h.symm) n4 n5 n2 n3).2 ⟨o, h1, h2, h3, o', k1, k2, k3, k4⟩
  ·simp at hf
 rename_i t x t' x' ho ho'
 simp only [Bool.and_eq_true, Option.isNone_iff_eq_none] at hf
 obtain ⟨⟨hg, hg'⟩, hf⟩ := hf
 split at hf
 rotate_left
 ·simp at hf
 rename_i d e hd he
 simp only [Bool.and_eq_true, bne_iff_ne, ne_eq, Bool.not_eq_true', Bool.and_eq_false_iff] at hf
 obtain ⟨⟨⟨hde, hxe⟩, hyd⟩, hst⟩ := hf
 have L1 := fun s ws => ld_step (C := C) (T := T) (M := M) (ops := ops) ho hg s ws
 have L2 := fun s ws => ld_step (C := C) (T := T) (M := M) (ops := ops) ho' hg' s ws
 rw [(L1 _ _).1] at h2
 rw [(L1 st []).2] at h3
 rw [(L2 _ _).1] at k2
 rw [(L2 _ []).2] at k3
 rw [hd] at h2
 rw [he] at k2
 -- what they write
 have shape : ∀ {t : Nat} {x : Operand} {d : Nat} {s : St} {ws : List Wr}, ((ldVal x s).bind fun a => ldWr T M t (some d) a s.ob) = some ws →
   (∃ v, ws = [.t d v]) ∨ (M.steal d = true ∧ ∃ u row cs k y v, ws = [.o u (.cells row (cs.set k y.weak)), .t d v] ∧ s.ob u = some (.cells row cs) ∧ cs[k]? = some y ∧ y.isOwn = true) := by
  intro t x d s ws h
  rw [Option.bind_eq_some_iff] at h
  obtain ⟨a, ha, h⟩ := h
  unfold ldWr at h
  cases hT : T t with
  | none => rw [hT] at h; simp at h
  | some ti =>
   rw [hT] at h
   simp only at h
   cases a <;> simp only [reduceCtorEq] at h
   case ref u off =>
    cases hu : s.ob u with
    | none => rw [hu] at h; simp at h
    | some z =>
     rw [hu] at h
     cases z with
     | cells row cs =>
      simp only at h
      cases hv : getS ti cs off with
      | none => rw [hv] at h; simp at h
      | some v =>
       rw [hv] at h
       simp only at h
       split at h
       ·rename_i hc
        simp only [Option.map_some, Option.getD_some, Bool.and_eq_true] at hc
        injection h with h
        right
        refine ⟨hc.1, u, row, cs, off, v, v, h.symm, hu, ?_, hc.2⟩
        unfold getS at hv
        split at hv
        ·split at hv
         ·injection hv with hv; rw [← hv] at hc; simp [V.isOwn] at hc
         ·simp at hv
        ·exact hv
       ·injection h with h
        exact .inl ⟨_, h.symm⟩
     | _ => simp at h
   case eptr cs off =>
    rw [Option.map_eq_some_iff] at h
    obtain ⟨v, _, h⟩ := h
    exact .inl ⟨_, h.symm⟩
 have plain : ∀ {t : Nat} {d : Nat} (a : V) {ob1 ob2 : Oid → Option Ob} {u : Oid} {row : Bool} {cs : List V} {k : Nat} {y : V}, M.steal d = false → ob1 u = some (.cells row cs) → cs[k]? = some y → y.isOwn = true →
   (∀ o, ob2 o = if u = o then some (.cells row (cs.set k y.weak)) else ob1 o) → ldWr T M t (some d) a ob2 = ldWr T M t (some d) a ob1 := by
  intro t d a ob1 ob2 u row cs k y hs h1 h2 h3 h4
  unfold ldWr
  cases hT : T t with
  | none => rfl
  | some ti =>
   simp only
   cases a <;> try rfl
   case ref u2 off =>
    simp only [Option.map_some, Option.getD_some, hs, Bool.false_and, Bool.false_eq_true, if_false]
    rw [h4]
    by_cases e : u = u2
    ·subst e
     rw [if_pos rfl, h1]
     simp only
     have := getS_weak (ti := ti) h2 h3 off
     cases g1 : getS ti (cs.set k y.weak) off with
     | none => cases g2 : getS ti cs off with
      | none => rfl
      | some v2 => rw [g1, g2] at this; simp at this
     | some v1 => cases g2 : getS ti cs off with
      | none => rw [g1, g2] at this; simp at this
      | some v2 =>
       rw [g1, g2] at this
       simp only [Option.map_some, Option.some.injEq] at this
       simp only [this]
    ·rw [if_neg e]
 have val : ∀ {x : Operand} {d : Nat} {s : St} {ws : List Wr}, notT x d = true → (∀ t, Wh.t t ∈ ws.map Wr.wh → t = d) → ldVal x (s.app ws) = ldVal x s := by
  intro x d s ws h1 h2
  cases x with
  | tmp t =>
   simp only [ldVal]
   rw [app_tm_ne]
   intro h
   have := h2 t h
   subst this
   simp [notT] at h1
  | _ => rfl
 have tmw : ∀ {t : Nat} {x : Operand} {d : Nat} {s : St} {ws : List Wr}, ((ldVal x s).bind fun a => ldWr T M t (some d) a s.ob) = some ws → ∀ t, Wh.t t ∈ ws.map Wr.wh → t = d := by
  intro t x d s ws h t' ht
  rcases shape h with ⟨v, rfl⟩ | ⟨_, u, row, cs, k, y, v, rfl, _⟩
  ·simpa [Wr.wh] using ht
  ·simpa [Wr.wh] using ht
 have obW : ∀ {s : St} {d : Nat} {v : V} {u : Oid} {x : Ob}, (∀ o, (s.app [.o u x, .t d v]).ob o = if u = o then some x else s.ob o) := by
  intro s d v u x o
  show ((s.putO u x).put d v).ob o = _
  rw [St.ob_put, St.ob_putO]
 have sh1 := shape h2
 have vj := val (s := st) hyd (tmw h2)
 rw [vj] at k2
 have hB : ((ldVal x' st).bind fun a => ldWr T M t' (some e) a st.ob) = some (R j).1 := by
  rw [← k2]
  cases ldVal x' st with
  | none => rfl
  | some a =>
   rcases sh1 with ⟨v, hw⟩ | ⟨hs, u, row, cs, k, y, v, hw, g1, g2, g3⟩
   ·rw [hw]; rfl
   ·have hse : M.steal e = false := by
     rcases hst with h | h
     ·rw [hs] at h; cases h
     ·exact h
    simp only [Option.bind_some]
    rw [hw]
    exact (plain a hse g1 g2 g3 obW).symm
 have sh2 := shape hB
 have vi := val (s := st) hxe (tmw hB)
 have hA : ((ldVal x (st.app (R j).1)).bind fun a => ldWr T M t (some d) a (st.app (R j).1).ob) = some (R i).1 := by
  rw [vi, ← h2]
  cases ldVal x st with
  | none => rfl
  | some a =>
   rcases sh2 with ⟨v, hw⟩ | ⟨hs, u, row, cs, k, y, v, hw, g1, g2, g3⟩
   ·rw [hw]; rfl
   ·have hse : M.steal d = false := by
     rcases hst with h | h
     ·exact h
     ·rw [hs] at h; cases h
    simp only [Option.bind_some]
    rw [hw]
    exact plain a hse g1 g2 g3 obW
 have hdis : ∀ z ∈ (R i).1.map Wr.wh, z ∉ (R j).1.map Wr.wh := by
  rcases sh1 with ⟨v, hw⟩ | ⟨hs, u, row, cs, k, y, v, hw, _⟩ <;> rcases sh2 with ⟨v', hw'⟩ | ⟨hs', u', row', cs', k', y', v', hw', _⟩ <;> rw [hw, hw']
  ·intro z hz hz'
   simp [Wr.wh] at hz hz'
   rw [hz] at hz'
   exact hde (by simpa using hz')
  ·intro z hz hz'
   simp [Wr.wh] at hz hz'
   rw [hz] at hz'
   exact hde (by simpa using hz')
  ·intro z hz hz'
   simp [Wr.wh] at hz hz'
   rw [hz'] at hz
   exact hde (by simp at hz; exact hz.symm)
  ·rw [hs, hs'] at hst; simp at hst
 have rj : ldRd T t' x' st = (R j).2 := by
  rw [← k3]
  unfold ldRd
  rw [vj]
 have ri : ldRd T t x (st.app (R j).1) = (R i).2 := by
  rw [← h3]
  unfold ldRd
  rw [vi]
 refine ⟨o', k1, (L2 _ _).1.2 (by rw [he]; exact hB), (L2 _ []).2.trans rj, o, h1, (L1 _ _).1.2 (by rw [hd]; exact hA), (L1 _ []).2.trans ri, RunL.congr L (app_comm hdis st) k4⟩
theorem RunL.front {i : Nat} : ∀ (C1 : List Nat) {C2 : List Nat} {st st' : St}, (∀ c ∈ C1, (foot R c).clash (foot R i) = false ∨ freeAt M ops c i = true) → RunL C T M ops R (C1 ++ i :: C2) st st' → RunL C T M ops R (i :: (C1 ++ C2)) st st' := by
 intro C1
 induction C1 with
 | nil => intro C2 st st' _ h; exact h
 | cons c C1 ih =>
  intro C2 st st' hn h
  obtain ⟨o, h1, h2, h3, h4⟩ := h
  rcases hn c (by simp) with hc | hc
  ·exact RunL.swap hc ⟨o, h1, h2, h3, ih (fun d hd => hn d (by simp [hd])) h4⟩
  ·exact RunL.swapF hc ⟨o, h1, h2, h3, ih (fun d hd => hn d (by simp [hd])) h4⟩
end

section
variable {P : Program} {T : Nat → Option TI} {M : Mode} {F : Fr} {n : Nat} {D : Pin}

theorem step_sound (hT : TabOk P T) {ops : List Oper} {Q : Exit → Act → World → Prop} {K : Act → World → Prop} {H μ st a w} {i : Nat} {o : Oper} (ho : ops[i]? = some o) {ws : List Wr}
  (hd : ∀ d, o.dst = some d → okD n D d) (hs : stepW (COk P F.B) T M ops o st ws) (hat : AtS H μ F st a w n D)
  (hK : ∀ a' w' H' μ', AtS H' μ' F (st.app ws) a' w' n D → Ext F H w H' w' → K a' w') : wpOp P ops.toArray Q i K a w := by
 unfold wpOp
 have ho' : ops.toArray[i]? = some o := by simpa using ho
 rw [ho']
 unfold stepW at hs
 dsimp only
 split at hs
 ·rename_i hw
  have hwant := wanted_run hat hw (by simp)
  simp at hwant
  rw [hwant, if_pos rfl]
  left
  split at hs
  ·rename_i lw hop
   subst hs
   rcases opF_run hT hat.rel (env_of a) hop with ⟨l', e, hgood⟩ | ⟨_, _, _, _, _, _, _, e, _⟩
   ·simp at e
    subst e
    obtain ⟨H1, μ1, w1, u, v, h1, h2, h3, h4⟩ := hgood
    simp only [Oper.wp, h1]
    have hnext : K (a.put o.dst v) w1 := hK _ _ _ _ (hat.put hd h3) h4
    rcases h2 with rfl | ⟨rfl, rfl⟩
    ·exact hnext
    ·exact hnext
   ·simp at e
  ·rename_i f args objs nw way hop
   rcases opF_run hT hat.rel (env_of a) hop with ⟨l', e, _⟩ | ⟨f', args', objs', nw', way', g', us, e, c1, h6⟩
   ·simp at e
   ·simp only [Res.call.injEq] at e
    obtain ⟨rfl, rfl, rfl, rfl, rfl⟩ := e
    obtain ⟨r, objs1, news, hc, hnw, rfl⟩ := hs
    obtain ⟨c2, c3⟩ := c1 _ _ _ hc hnw
    simp only [Oper.wp, h6, c2, Oper.upon_enter]
    refine Calls.mono c3 ?_
    rintro e w1 ⟨v, H1, μ2, rfl, k1, k2⟩
    exact hK _ _ _ _ (hat.put hd k1) k2
  ·exact hs.elim
 ·rename_i hw
  have hwant := wanted_run hat hw (by simp)
  simp at hwant
  rw [hwant, if_neg (by simp)]
  subst hs
  have hrel : Rel H μ F (st.app (out o.dst (.tup []))) (after o.dst (tmOf a) undef) w := out_rel' hat.rel (.tup _ _ .nil) rfl
  exact hK _ _ _ _ (hat.put hd hrel) (Ext.refl _ _ _)
 ·exact hs.elim

/-- The canonical run. -/
theorem runD_run {C : Orc} {ops : List Oper} {Q : List Foot → St → Prop} : ∀ (l : List Oper) (k : Nat) (st : St) (fs : List Foot), l = ops.drop k → k + l.length = ops.length → runD C T M ops l st fs Q →
  ∃ (recs : List (List Wr × List Wh)) (st' : St), recs.length = l.length ∧ Q (fs ++ recs.map fun r => ⟨r.2, r.1.map Wr.wh⟩) st' ∧
   ∀ R : Nat → List Wr × List Wh, (∀ j (hj : j < recs.length), R (k + j) = recs[j]) → RunL C T M ops R (List.range' k l.length) st st' := by
 intro l
 induction l with
 | nil => intro k st fs _ _ h; exact ⟨[], st, rfl, by simpa [runD] using h, fun R _ => Alike.refl _⟩
 | cons o rest ih =>
  intro k st fs hl hk h
  have hk1 : k < ops.length := by simp at hk; omega
  have ho : ops[k]? = some o := by
   have := congrArg List.head? hl
   rw [List.head?_drop] at this
   simpa using this.symm
  have hrest : rest = ops.drop (k + 1) := by
   have := congrArg List.tail hl
   simpa using this
  have hk2 : (k + 1) + rest.length = ops.length := by simp at hk; omega
  have key : ∀ (ws : List Wr), stepW C T M ops o st ws → runD C T M ops rest (st.app ws) (fs ++ [⟨stepR T M ops o st, ws.map Wr.wh⟩]) Q →
    ∃ (recs : List (List Wr × List Wh)) (st' : St), recs.length = (o :: rest).length ∧ Q (fs ++ recs.map fun r => ⟨r.2, r.1.map Wr.wh⟩) st' ∧
     ∀ R : Nat → List Wr × List Wh, (∀ j (hj : j < recs.length), R (k + j) = recs[j]) → RunL C T M ops R (List.range' k (o :: rest).length) st st' := by
   intro ws hs hr
   obtain ⟨recs, st', e1, e2, e3⟩ := ih (k + 1) (st.app ws) _ hrest hk2 hr
   refine ⟨(ws, stepR T M ops o st) :: recs, st', by simp [e1], by simpa using e2, fun R hR => ?_⟩
   have h0 := hR 0 (by simp)
   simp at h0
   refine ⟨o, ho, by rw [h0]; exact hs, by rw [h0], ?_⟩
   rw [h0]
   exact e3 R (fun j hj => by
    have := hR (j + 1) (by simpa using hj)
    simp at this
    rw [show k + 1 + j = k + (j + 1) from by omega]
    exact this)
  simp only [runD] at h
  split at h
  ·rename_i hw
   have hR : stepR T M ops o st = (wanted ops o).reads st ++ (opF T M o).reads st := by unfold stepR; rw [hw]
   split at h
   ·rename_i lw hop
    refine key lw ?_ (by rw [hR]; exact h)
    unfold stepW
    rw [hw]
    simp only [hop]
   ·rename_i f args objs nw way hop
    obtain ⟨r, objs', news, hc, hnw, h⟩ := h
    refine key (back way r objs' news) ?_ (by rw [hR]; exact h)
    unfold stepW
    rw [hw]
    simp only [hop]
    exact ⟨r, objs', news, hc, hnw, rfl⟩
   ·exact h.elim
  ·rename_i hw
   have hR : stepR T M ops o st = (wanted ops o).reads st := by unfold stepR; rw [hw]
   refine key (out o.dst (.tup [])) ?_ (by rw [hR]; exact h)
   unfold stepW
   rw [hw]
  ·exact h.elim

/-- Whatever order is drawn, the end is alike. -/
theorem draw_sound (hT : TabOk P T) {ops : List Oper} (hd : ∀ o ∈ ops, ∀ d, o.dst = some d → okD n D d) {K : Exit → Act → World → Prop} {R : Nat → List Wr × List Wh} {fs : List Foot}
  (hok : orderOk M ops fs = true) (hfs : ∀ i, i < ops.length → fs.getD i ⟨[], []⟩ = foot R i) {st' : St} {H0 : Heap} {w0 : World}
  (hK : ∀ stE a' w' H' μ', Alike stE st' → AtS H' μ' F stE a' w' n D → Ext F H0 w0 H' w' → K .normal a' w') :
  ∀ (fuel : Nat) (listed : Array Bool) (C : List Nat) (st : St) (a : Act) (w : World) (H : Heap) (μ : Oid → Option Nat), listed.size = ops.length →
   C = (List.range ops.length).filter (fun j => !listed.getD j true) → C.length = fuel → RunL (COk P F.B) T M ops R C st st' → AtS H μ F st a w n D → Ext F H0 w0 H w →
   (∀ j, j < ops.length → listed.getD j true = true → ∀ c ∈ (clos ops).getD j [], listed.getD c true = true) →
   wpAny P .any ops.toArray K fuel listed a w := by
 have hok' : ∀ i (hi : i < ops.length), (∀ e ∈ binding ops[i], e < i) ∧ (∀ c ∈ (clos ops).getD i [], ∃ e ∈ binding ops[i], c = e ∨ c ∈ (clos ops).getD e []) ∧
   ∀ c, c < i → (foot R c).clash (foot R i) = true → freeAt M ops c i = true ∨ c ∈ (clos ops).getD i [] := by
  intro i hi
  simp only [orderOk, Bool.and_eq_true] at hok
  have := List.all_eq_true.1 hok.2 (ops[i], i) (by rw [List.mem_zipIdx_iff_getElem?]; simp [hi])
  simp only [Bool.and_eq_true, List.all_eq_true, decide_eq_true_eq, List.any_eq_true, Bool.or_eq_true, beq_iff_eq, Bool.not_eq_true', List.mem_range, List.contains_iff_mem] at this
  obtain ⟨⟨h1, h2⟩, h3⟩ := this
  refine ⟨h1, h2, fun c hc hcl => ?_⟩
  rcases h3 c hc with (h | h) | h
  ·rw [hfs c (by omega), hfs i hi, hcl] at h
   simp at h
  ·exact .inr h
  ·exact .inl h
 intro fuel
 induction fuel with
 | zero =>
  intro listed C st a w H μ hls hC hlen hrun hat hx hcl
  have hC0 : C = [] := List.eq_nil_of_length_eq_zero hlen
  subst hC0
  refine ⟨?_, hK st a w H μ hrun hat hx⟩
  have : ∀ j, j < ops.length → listed.getD j true = true := by
   intro j hj
   have := List.filter_eq_nil_iff.1 hC.symm j (by simpa using hj)
   simpa using this
  refine List.filter_eq_nil_iff.2 fun j hj => ?_
  simp at hj
  simp [this j hj]
 | succ fuel ih =>
  intro listed C st a w H μ hls hC hlen hrun hat hx hcl
  have hmem : ∀ j, j ∈ C ↔ j < ops.length ∧ listed.getD j true = false := by
   intro j
   rw [hC]
   simp
  have hready : ∀ i, i ∈ Region.ready .any ops.toArray listed ↔ ∃ hi : i < ops.length, listed.getD i true = false ∧ ∀ e ∈ binding ops[i], listed.getD e false = true := by
   intro i
   simp only [Region.ready, List.mem_filter, List.mem_range, List.size_toArray, Bool.and_eq_true, Bool.not_eq_true']
   constructor
   ·rintro ⟨hi, h1, h2⟩
    refine ⟨hi, h1, fun e he => ?_⟩
    simp only [binding, List.mem_map, List.mem_filter] at he
    obtain ⟨ed, ⟨he1, he2⟩, rfl⟩ := he
    simp only [List.getElem?_toArray, List.getElem?_eq_getElem hi, Option.map_some, Option.getD_some] at h2
    have := Array.all_eq_true_iff_forall_mem.1 h2 ed (by simpa using he1)
    simpa [he2] using this
   ·rintro ⟨hi, h1, h2⟩
    refine ⟨hi, h1, ?_⟩
    simp only [List.getElem?_toArray, List.getElem?_eq_getElem hi, Option.map_some, Option.getD_some]
    refine Array.all_eq_true_iff_forall_mem.2 fun ed he => ?_
    by_cases hb : Region.binds .any ed = true
    ·have := h2 ed.on (by simp only [binding, List.mem_map, List.mem_filter]; exact ⟨ed, ⟨by simpa using he, hb⟩, rfl⟩)
     simp [this]
    ·simp [hb]
  refine ⟨fun hnil => ?_, fun i hi => ?_⟩
  ·-- the least that is left is ready
   exfalso
   cases hc : C with
   | nil => rw [hc] at hlen; simp at hlen
   | cons c0 C' =>
    have hc0 : c0 ∈ C := by rw [hc]; simp
    obtain ⟨hlt, hun⟩ := (hmem c0).1 hc0
    have hmin : ∀ j, j < c0 → listed.getD j false = true := by
     intro j hj
     have hjlt : j < ops.length := by omega
     have hsorted : C.Pairwise (· < ·) := by rw [hC]; exact List.Pairwise.filter _ List.pairwise_lt_range
     by_cases hl : listed.getD j true = true
     ·rw [Array.getD_eq_getD_getElem?, Array.getElem?_eq_getElem (by omega)] at hl ⊢
      exact hl
     ·exfalso
      have hjm : j ∈ C := (hmem j).2 ⟨hjlt, by simpa using hl⟩
      rw [hc] at hjm hsorted
      rcases List.mem_cons.1 hjm with rfl | hjm
      ·omega
      ·have := (List.pairwise_cons.1 hsorted).1 j hjm
       omega
    have : c0 ∈ Region.ready .any ops.toArray listed := (hready c0).2 ⟨hlt, hun, fun e he => hmin e ((hok' c0 hlt).1 e he)⟩
    rw [hnil] at this
    simp at this
  ·obtain ⟨hlt, hun, hall⟩ := (hready i).1 hi
   have him : i ∈ C := (hmem i).2 ⟨hlt, hun⟩
   obtain ⟨C1, C2, hsplit⟩ := List.append_of_mem him
   have hsorted : C.Pairwise (· < ·) := by rw [hC]; exact List.Pairwise.filter _ List.pairwise_lt_range
   have hC1 : ∀ c ∈ C1, c < i ∧ listed.getD c true = false := by
    intro c hc
    rw [hsplit] at hsorted
    exact ⟨(List.pairwise_append.1 hsorted).2.2 c hc i (by simp), ((hmem c).1 (by rw [hsplit]; simp [hc])).2⟩
   have hlt' : ∀ e : Nat, listed.getD e false = true → listed.getD e true = true := by
    intro e he
    rw [Array.getD_eq_getD_getElem?] at he ⊢
    cases hq : listed[e]? with
    | none => rfl
    | some q => rw [hq] at he; exact he
   have hlist : ∀ c ∈ (clos ops).getD i [], listed.getD c true = true := by
    intro c hc
    obtain ⟨e, he, h⟩ := (hok' i hlt).2.1 c hc
    have hle := hlt' e (hall e he)
    rcases h with rfl | h
    ·exact hle
    ·have : e < ops.length := by have := (hok' i hlt).1 e he; omega
     exact hcl e this hle c h
   have hno : ∀ c ∈ C1, (foot R c).clash (foot R i) = false ∨ freeAt M ops c i = true := by
    intro c hc
    obtain ⟨h1, h2⟩ := hC1 c hc
    cases hq : (foot R c).clash (foot R i) with
    | false => exact .inl rfl
    | true =>
     rcases (hok' i hlt).2.2 c h1 hq with h | h
     ·exact .inr h
     ·have := hlist c h
      rw [h2] at this
      simp at this
   rw [hsplit] at hrun
   obtain ⟨o, g1, g2, g3, g4⟩ := RunL.front C1 hno hrun
   have hoe : o = ops[i] := by rw [List.getElem?_eq_getElem hlt] at g1; injection g1 with g1; exact g1.symm
   refine step_sound hT g1 (hd o (by rw [hoe]; exact List.getElem_mem hlt)) g2 hat fun a' w' H' μ' hat' hx' => ?_
   have hset : ∀ j, (listed.setIfInBounds i true).getD j true = if j = i then true else listed.getD j true := by
    intro j
    simp only [Array.getD_eq_getD_getElem?, Array.getElem?_setIfInBounds]
    by_cases e : i = j
    ·subst e; simp [show i < listed.size by omega]
    ·simp [e, Ne.symm e]
   refine ih (listed.setIfInBounds i true) (C1 ++ C2) (st.app (R i).1) a' w' H' μ' (by simpa using hls) ?_ ?_ g4 hat' (hx.trans hx') ?_
   ·have hnd : C.Nodup := hsorted.imp (fun h => Nat.ne_of_lt h)
    have h1 : (List.range ops.length).filter (fun j => !(listed.setIfInBounds i true).getD j true) = C.filter (fun j => decide (j ≠ i)) := by
     rw [hC, List.filter_filter]
     refine List.filter_congr fun j hj => ?_
     rw [hset]
     by_cases e : j = i <;> simp [e]
    rw [h1, hsplit, List.filter_append, List.filter_cons]
    simp only [ne_eq, not_true_eq_false, decide_false, Bool.false_eq_true, if_false]
    rw [hsplit] at hnd
    have hni := List.nodup_append.1 hnd
    rw [List.filter_eq_self.2, List.filter_eq_self.2]
    ·intro c hc
     have := (List.nodup_cons.1 hni.2.1).1
     simp
     rintro rfl
     exact this hc
    ·intro c hc
     have := hni.2.2 c hc i (by simp)
     simpa using this
   ·rw [hsplit] at hlen
    simp at hlen ⊢
    omega
   ·intro j hj hl c hc
    rw [hset] at hl ⊢
    by_cases e : j = i
    ·subst e
     split
     ·rfl
     ·exact hlist c hc
    ·rw [if_neg e] at hl
     have := hcl j hj hl c hc
     split
     ·rfl
     ·exact this
end
end Go.Ax
set_option linter.unusedVariables false
set_option linter.unusedSimpArgs false
namespace Go.Ax
attribute [local simp] look_cons

def exitOf : X → Exit
 | .normal => .normal
 | .ret => .ret
 | .exit id => .exit id
def dstsZ (z : List Nat) (n : Nat) : Code → Bool
 | .region _ ops _ => ops.toList.all fun o => match o.dst with | some d => decide (d < n) && !z.contains d | none => true
 | .seq a b => dstsZ z n a && dstsZ z n b
 | .cond _ a b => dstsZ z n a && dstsZ z n b
 | .block _ a => dstsZ z n a
 | .loop a => dstsZ z n a
 | _ => true
def dstsOk (n : Nat) (c : Code) : Bool := dstsZ [] n c

theorem cur_alike {a b : St} (h : Alike a b) : ∀ (n : Nat) (o : Oid), cur a n o = cur b n o := by
 intro n
 induction n with
 | zero => intro o; rfl
 | succ n ih =>
  intro o
  simp only [cur, h.2]
  split
  ·exact ih _
  ·rfl
theorem Alike.restrict {a b : St} (h : Alike a b) (hi : Hint) : restrict hi a = restrict hi b := by
 have h1 : ∀ o, curH hi a o = curH hi b o := by
  intro o
  unfold curH
  split
  ·split
   ·exact cur_alike h _ _
   ·rfl
  ·exact cur_alike h _ _
 have h2 : keep hi a = keep hi b := by
  funext o
  simp only [keep, h1]
 simp only [Go.Ax.restrict, St.mk.injEq]
 refine ⟨List.map_congr_left fun t _ => by rw [h.1 t, h2], ?_⟩
 congr 1
 funext o
 simp only [obR, h1, h2, h.2]

section
variable {P : Program} {F : Fr} {n : Nat} {D : Pin}

theorem awp_sound (c : Ctx) (hC : c.C = COk P F.B) (hT : TabOk P c.T) (hm : P.follows .mixedOrders = true) : ∀ (code : Code) {H μ st a w} {Q : X → St → Prop} {K : Exit → Act → World → Prop}, dstsZ D.ks n code = true →
  awp c code st Q → AtS H μ F st a w n D → (∀ e st' a' w' H' μ', Q e st' → AtS H' μ' F st' a' w' n D → Ext F H w H' w' → K (exitOf e) a' w') → code.wp P K a w := by
 intro code
 induction code with
 | skip => intro H μ st a w Q K _ h hat hK; exact wp_skip (hK .normal st a w H μ h hat (Ext.refl _ _ _))
 | ret => intro H μ st a w Q K _ h hat hK; exact wp_ret (hK .ret st a w H μ h hat (Ext.refl _ _ _))
 | exit id => intro H μ st a w Q K _ h hat hK; exact wp_exit (hK (.exit id) st a w H μ h hat (Ext.refl _ _ _))
 | seq x y ihx ihy =>
  intro H μ st a w Q K hd h hat hK
  simp [dstsZ] at hd
  refine wp_seq (ihx hd.1 h hat fun e st' a' w' H' μ' hq hat' hx => ?_)
  cases e with
  | normal => exact ihy hd.2 hq hat' fun e st'' a'' w'' H'' μ'' hq' hat'' hx' => hK e st'' a'' w'' H'' μ'' hq' hat'' (hx.trans hx')
  | ret => exact hK .ret st' a' w' H' μ' hq hat' hx
  | exit id => exact hK (.exit id) st' a' w' H' μ' hq hat' hx
 | cond x y z ihy ihz =>
  intro H μ st a w Q K hd h hat hK
  simp [dstsZ] at hd
  simp only [awp] at h
  split at h
  ·rename_i t hv
   have hb := (ev_rep hat.rel (env_of a) hv).bool
   refine wp_cond hb ?_
   cases t
   ·exact ihz hd.2 h hat hK
   ·exact ihy hd.1 h hat hK
  ·exact h.elim
 | block id x ih =>
  intro H μ st a w Q K hd h hat hK
  refine wp_block (ih hd h hat fun e st' a' w' H' μ' hq hat' hx => ?_)
  cases e with
  | normal => exact hK .normal st' a' w' H' μ' hq hat' hx
  | ret => exact hK .ret st' a' w' H' μ' hq hat' hx
  | exit i =>
   simp only [exitOf, Exit.inBlock]
   dsimp only at hq
   by_cases e : i = id
   ·rw [if_pos e] at hq ⊢
    exact hK .normal st' a' w' H' μ' hq hat' hx
   ·rw [if_neg e] at hq ⊢
    exact hK (.exit i) st' a' w' H' μ' hq hat' hx
 | loop x ih =>
  intro H μ st a w Q K hd h hat hK
  obtain ⟨k, h⟩ := h
  have key : ∀ (k : Nat) (H' : Heap) (μ') (st : St) (a : Act) (w' : World), iter (fun st Q => awp c x (restrict (c.hint (2 * (firstReg x).getD 0 + 1)) st) Q) Q k st → AtS H' μ' F st a w' n D → Ext F H w H' w' → Code.rounds P x K k a w' := by
   intro k
   induction k with
   | zero => intro H' μ' st a w' h; exact h.elim
   | succ k ihk =>
    intro H1 μ1 st a w1 h hat h0
    rw [rounds_succ]
    obtain ⟨μ2, hr⟩ := restrict_rel hat.rel (c.hint (2 * (firstReg x).getD 0 + 1))
    refine ih hd h ⟨hr, hat.size, hat.defers, hat.fix⟩ fun e st' a' w' H' μ' hq hat' hx => ?_
    cases e with
    | normal => exact ihk H' μ' st' a' w' hq hat' (h0.trans hx)
    | ret => exact hK .ret st' a' w' H' μ' hq hat' (h0.trans hx)
    | exit id => exact hK (.exit id) st' a' w' H' μ' hq hat' (h0.trans hx)
  exact wp_loop_rounds k (key k H μ st a w h hat (Ext.refl _ _ _))
 | region id ops draw =>
  intro H μ st a w Q K hd h hat hK
  have hd' : ∀ o ∈ ops.toList, ∀ d, o.dst = some d → okD n D d := by
   intro o ho d hod
   have := List.all_eq_true.1 hd o ho
   rw [hod] at this
   simp only [Bool.and_eq_true, Bool.not_eq_true', decide_eq_true_eq] at this
   exact this
  cases draw with
  | false =>
   simp only [awp, hC] at h
   refine wp_region_list ?_
   have := runOps_sound (P := P) hT (ops := ops.toList) (K := K) ops.toList hd' h hat (fun st' a' w' H' μ' hq hat' hx => by
    obtain ⟨μ2, hr⟩ := restrict_rel hat'.rel (c.hint (2 * id))
    exact hK .normal _ a' w' H' μ2 hq ⟨hr, hat'.size, hat'.defers, hat'.fix⟩ hx)
   simpa using this
  | true =>
   simp only [awp, hC] at h
   obtain ⟨recs, st', e1, ⟨e2, e3⟩, e4⟩ := runD_run (C := COk P F.B) ops.toList 0 st [] (by simp) (by simp) h
   have hrun := e4 (fun i => recs.getD i ([], [])) (fun j hj => by simp [List.getD_eq_getElem?_getD, List.getElem?_eq_getElem hj])
   refine wp_region_any hm ?_
   have hat' : AtS H μ F st a { w with drawn := w.drawn + 1 } n D := ⟨hat.rel.world rfl, hat.size, hat.defers, hat.fix⟩
   have := draw_sound (P := P) (F := F) (n := n) (D := D) hT (ops := ops.toList) hd' (K := K) (R := fun i => recs.getD i ([], [])) e2
    (fun i hi => by
     have hi' : i < recs.length := by rw [e1]; exact hi
     simp [foot, List.getD_eq_getElem?_getD, List.getElem?_eq_getElem hi']) (st' := st') (H0 := H) (w0 := { w with drawn := w.drawn + 1 })
    (fun stE a' w' H' μ' hal hatE hx => by
     obtain ⟨μ2, hr⟩ := restrict_rel hatE.rel (c.hint (2 * id))
     rw [hal.restrict] at hr
     exact hK .normal _ a' w' H' μ2 e3 ⟨hr, hatE.size, hatE.defers, hatE.fix⟩ (Ext.trans (Ext.world (w := w) (w' := { w with drawn := w.drawn + 1 }) rfl ⟨rfl, rfl, rfl⟩) hx))
    ops.size (Array.replicate ops.size false) (List.range ops.size) st a { w with drawn := w.drawn + 1 } H μ (by simp) (by
     symm
     refine List.filter_eq_self.2 fun j hj => ?_
     simp at hj
     simp [Array.getD_eq_getD_getElem?, hj]) (by simp) (by simpa [List.range_eq_range'] using hrun) hat' (Ext.refl _ _ _)
    (fun j hj hl => by
     exfalso
     simp at hj
     simp [Array.getD_eq_getD_getElem?, hj] at hl)
   simpa using this
 | _ => intro H μ st a w Q K _ h; exact h.elim
end
end Go.Ax
set_option linter.unusedVariables false
set_option linter.unusedSimpArgs false
namespace Go.Ax
attribute [local simp] look_cons
section
variable {P : Program} {T : Nat → Option TI} {H H' : Heap} {μ μ' : Oid → Option Nat} {F F' : Fr} {st st' : St} {tm tm' : Nat → Value} {w w' : World}

/-- The same things under other names. -/
theorem Rel.rename (h : Rel H μ F st tm w) (g f : Oid → Option Oid) (e : Nat → Option Nat) (hF : F'.F = F.F) (hB : F'.B = F.B)
  (hfg : ∀ o u b, f o = some u → μ o = some b → g u = some o) (hginj : ∀ u u' o, g u = some o → g u' = some o → u = u')
  (hob : ∀ u, st'.ob u = match g u with | some o => (st.ob o).map (Ob.ren f) | none => none)
  (heinj : ∀ t t' s, e t = some s → e t' = some s → t = t')
  (henv : ∀ t, ∃ x v, st'.tm t = renV f x ∧ tm' t = v ∧ RepS H μ x v ∧ (x.isOwn = true → ∃ s, e t = some s ∧ st.tm s = x ∧ tm s = v))
  (hpar : ∀ j, st'.ob (.par j) ≠ none → (g (.par j)).bind μ = F'.G j) : Rel H (fun u => (g u).bind μ) F' st' tm' w := by
 have hf : ∀ o u b, f o = some u → μ o = some b → (fun u => (g u).bind μ) u = some b := by
  intro o u b h1 h2
  simp [hfg o u b h1 h2, h2]
 have hob1 : ∀ u x, st'.ob u = some x → ∃ o y, g u = some o ∧ st.ob o = some y ∧ x = y.ren f := by
  intro u x hx
  rw [hob] at hx
  cases hg : g u with
  | none => rw [hg] at hx; simp at hx
  | some o =>
   rw [hg] at hx
   simp only [Option.map_eq_some_iff] at hx
   obtain ⟨y, h1, h2⟩ := hx
   exact ⟨o, y, rfl, h1, h2.symm⟩
 have hlv : ∀ u b, live st' (fun u => (g u).bind μ) u = some b → ∃ o, g u = some o ∧ live st μ o = some b := by
  intro u b hb
  obtain ⟨h1, h2⟩ := live_some hb
  simp only [Option.bind_eq_some_iff] at h1
  obtain ⟨o, h3, h4⟩ := h1
  refine ⟨o, h3, live_of h4 fun e => h2 ?_⟩
  rw [hob, h3]
  simp [e, Ob.ren]
 have hat : ∀ ℓ sz xs b off n c, atL (fun u => (g u).bind μ) st' tm' w ℓ (.own sz xs) (.slice (some ⟨b, off, none⟩) n c) →
   ∃ ℓ', atL μ st tm w ℓ' (.own sz xs) (.slice (some ⟨b, off, none⟩) n c) ∧ ((∃ t s, ℓ = .t t ∧ ℓ' = .t s ∧ e t = some s) ∨ ∃ u o k, ℓ = .o u k ∧ ℓ' = .o o k ∧ g u = some o) := by
  intro ℓ sz xs b off n c hl
  cases ℓ with
  | t m =>
   obtain ⟨h1, h2⟩ := hl
   obtain ⟨x, v, k1, k2, k3, k4⟩ := henv m
   rw [k1, renV_own] at h1
   obtain ⟨s, k5, k6, k7⟩ := k4 (by rw [h1]; rfl)
   exact ⟨.t s, ⟨k6.trans h1, by rw [k7, ← k2, h2]⟩, .inl ⟨m, s, rfl, rfl, k5⟩⟩
  | o u k =>
   obtain ⟨row, cs, b', h1, h2, h3, h4⟩ := hl
   obtain ⟨o, y, k1, k2, k3⟩ := hob1 _ _ h1
   obtain ⟨cs0, e1, e2⟩ := ren_cells k3.symm
   simp only [k1, Option.bind_some] at h2
   exact ⟨.o o k, ⟨row, cs0, b', by rw [k2, e1], h2, (e2 k sz xs).1 h3, h4⟩, .inr ⟨u, o, k, rfl, rfl, k1⟩⟩
 refine ⟨fun t => ?_, h.heap, h.size, fun u hu => ?_, fun u x hx hax => ?_, fun u u' b h1 h2 => ?_, fun u b hb => ?_, fun u b hb => ?_, ⟨by rw [hF]; exact h.Flt.1, fun b o ho => by rw [hB] at ho; rw [hF]; exact h.Flt.2 b o ho⟩, fun ℓ sz xs b off n c hl => ?_, ?_, hpar, by rw [hB]; exact h.base⟩
 ·obtain ⟨x, v, k1, k2, k3, _⟩ := henv t
  rw [k1, k2]
  exact k3.ren hf
 ·rw [hob] at hu
  cases hg : g u with
  | none => rfl
  | some o =>
   rw [hg] at hu
   simp only [Option.map_eq_none_iff] at hu
   exact h.dom o hu
 ·obtain ⟨o, y, k1, k2, rfl⟩ := hob1 _ _ hx
  rw [ren_alive] at hax
  simp only [k1, Option.bind_some]
  rcases h.obs o y k2 hax with ⟨b, h1, h2⟩ | ⟨rfl, h2⟩
  ·exact .inl ⟨b, h1, h2.ren hf⟩
  ·exact .inr ⟨rfl, h2⟩
 ·obtain ⟨o, k1, k2⟩ := hlv _ _ h1
  obtain ⟨o', k3, k4⟩ := hlv _ _ h2
  have := h.inj _ _ _ k2 k4
  subst this
  exact hginj _ _ _ k1 k3
 ·obtain ⟨o, k1, k2⟩ := hlv _ _ hb
  exact h.objH _ _ k2
 ·obtain ⟨o, k1, k2⟩ := hlv _ _ hb
  rw [hF]
  exact h.objF _ _ k2
 ·obtain ⟨ℓ', hl', _⟩ := hat _ _ _ _ _ _ _ hl
  obtain ⟨g1, g2, g3, g4⟩ := h.own _ _ _ _ _ _ _ hl'
  refine ⟨g1, g2, fun u hu => ?_, by rw [hF]; exact g4⟩
  obtain ⟨o, k1, k2⟩ := hlv _ _ hu
  exact g3 _ k2
 ·rintro ℓ ℓ' b ⟨sz1, xs1, off1, n1, c1, h1⟩ ⟨sz2, xs2, off2, n2, c2, h2⟩
  obtain ⟨q1, a1, a2⟩ := hat _ _ _ _ _ _ _ h1
  obtain ⟨q2, b1, b2⟩ := hat _ _ _ _ _ _ _ h2
  have := h.ownInj _ _ _ ⟨_, _, _, _, _, a1⟩ ⟨_, _, _, _, _, b1⟩
  subst this
  rcases a2 with ⟨t, s, rfl, rfl, e1⟩ | ⟨u, o, k, rfl, rfl, e1⟩ <;> rcases b2 with ⟨t', s', rfl, e2, e3⟩ | ⟨u', o', k', rfl, e2, e3⟩
  ·injection e2 with e2
   subst e2
   rw [heinj _ _ _ e1 e3]
  ·simp at e2
  ·simp at e2
  ·simp only [Loc.o.injEq] at e2
   obtain ⟨rfl, rfl⟩ := e2
   rw [hginj _ _ _ e1 e3]

theorem init_ob (mv : List Nat) (objs : List Ob) : ∀ (k : Nat) (u : Oid), lookO u ((parObsFrom k objs).map (innOb mv)) = match u with
  | .par j => if mv.contains j then none else if k ≤ j then (objs[j - k]?).map (Ob.ren (inn mv)) else none
  | .alt (.par j) => if mv.contains j then (if k ≤ j then (objs[j - k]?).map (Ob.ren (inn mv)) else none) else none
  | _ => none := by
 induction objs with
 | nil =>
  intro k u
  simp only [parObsFrom, List.map_nil, lookO]
  split <;> simp
 | cons x r ih =>
  intro k u
  simp only [parObsFrom, List.map_cons, lookO, innOb, inn, Option.getD_some, ih]
  by_cases hk : mv.contains k = true
  ·rw [if_pos hk]
   have hk' : k ∈ mv := by simpa using hk
   by_cases hu : Oid.alt (.par k) = u
   ·subst hu
    simp [hk']
   ·rw [if_neg hu]
    split
    ·rename_i j
     by_cases hj : mv.contains j = true
     ·rw [if_pos hj, if_pos hj]
     ·rw [if_neg hj, if_neg hj]
      have hkj : k ≠ j := by rintro rfl; exact hj hk
      by_cases h2 : k ≤ j
      ·rw [if_pos (by omega), if_pos h2, show j - k = (j - (k + 1)) + 1 from by omega, List.getElem?_cons_succ]
      ·rw [if_neg (by omega), if_neg h2]
    ·rename_i j
     have hkj : k ≠ j := by rintro rfl; exact hu rfl
     by_cases hj : mv.contains j = true
     ·rw [if_pos hj, if_pos hj]
      by_cases h2 : k ≤ j
      ·rw [if_pos (by omega), if_pos h2, show j - k = (j - (k + 1)) + 1 from by omega, List.getElem?_cons_succ]
      ·rw [if_neg (by omega), if_neg h2]
     ·rw [if_neg hj, if_neg hj]
    ·rfl
  ·rw [if_neg hk]
   have hk' : k ∉ mv := by simpa using hk
   by_cases hu : Oid.par k = u
   ·subst hu
    simp [hk']
   ·rw [if_neg hu]
    split
    ·rename_i j
     have hkj : k ≠ j := by rintro rfl; exact hu rfl
     by_cases hj : mv.contains j = true
     ·rw [if_pos hj, if_pos hj]
     ·rw [if_neg hj, if_neg hj]
      by_cases h2 : k ≤ j
      ·rw [if_pos (by omega), if_pos h2, show j - k = (j - (k + 1)) + 1 from by omega, List.getElem?_cons_succ]
      ·rw [if_neg (by omega), if_neg h2]
    ·rename_i j
     by_cases hj : mv.contains j = true
     ·have hkj : k ≠ j := by rintro rfl; exact hk hj
      rw [if_pos hj, if_pos hj]
      by_cases h2 : k ≤ j
      ·rw [if_pos (by omega), if_pos h2, show j - k = (j - (k + 1)) + 1 from by omega, List.getElem?_cons_succ]
      ·rw [if_neg (by omega), if_neg h2]
     ·rw [if_neg hj, if_neg hj]
    ·rfl
/-- The state that a body begins in. -/
theorem init_rel {mv : List Nat} {args : List V} {objs : List Ob} {vs : List Value} {m : Nat} (hl : args.length = vs.length) (hr : Rel H μ F (conSt args objs []) (argTm vs) w) :
  ∃ μ0, Rel H μ0 ⟨F.F, fun j => if j < objs.length then F.G j else none, F.B⟩ (initM mv args objs) (fun t => (vs.toArray ++ Array.replicate m undef).getD t undef) w ∧ ∀ j, j < objs.length → F.G j = μ (.par j) := by
 have hG : ∀ j, j < objs.length → F.G j = μ (.par j) := by
  intro j hj
  exact (hr.par j (by rw [conSt_ob]; simp [hj])).symm
 refine ⟨_, hr.rename (F' := ⟨F.F, fun j => if j < objs.length then F.G j else none, F.B⟩) (fun u => match u with | .par j => if mv.contains j then none else some (.par j) | .alt (.par j) => if mv.contains j then some (.par j) else none | _ => none) (inn mv) some rfl rfl ?_ ?_ ?_ (fun t t' s h1 h2 => by
   injection h1 with h1; injection h2 with h2; rw [h1, h2]) ?_ ?_, hG⟩
 ·intro o u b h1 h2
  cases o with
  | par j =>
   simp only [inn, Option.some.injEq] at h1
   split at h1
   ·rename_i hc; subst h1; simp only [hc, if_true]
   ·rename_i hc; subst h1; simp only [hc, if_false]; rfl
  | _ => simp [inn] at h1
 ·intro u u' o h1 h2
  split at h1
  ·split at h1
   ·simp at h1
   ·rename_i j hc
    injection h1 with h1
    subst h1
    split at h2
    ·split at h2
     ·simp at h2
     ·injection h2 with h2; injection h2 with h2; subst h2; rfl
    ·split at h2
     ·rename_i hc2; injection h2 with h2; injection h2 with h2; subst h2; exact absurd hc2 hc
     ·simp at h2
    ·simp at h2
  ·split at h1
   ·rename_i j hc
    injection h1 with h1
    subst h1
    split at h2
    ·split at h2
     ·simp at h2
     ·rename_i hc2; injection h2 with h2; injection h2 with h2; subst h2; exact absurd hc hc2
    ·split at h2
     ·injection h2 with h2; injection h2 with h2; subst h2; rfl
     ·simp at h2
    ·simp at h2
   ·simp at h1
  ·simp at h1
 ·intro u
  simp only [initM, St.ob, init_ob]
  split
  ·rename_i j
   by_cases hc : mv.contains j = true
   ·rw [if_pos hc, if_pos hc]
   ·rw [if_neg hc, if_neg hc]
    have := conSt_ob args objs [] (.par j)
    simp only [St.ob] at this
    simp [this]
  ·rename_i j
   by_cases hc : mv.contains j = true
   ·rw [if_pos hc, if_pos hc]
    have := conSt_ob args objs [] (.par j)
    simp only [St.ob] at this
    simp [this]
   ·rw [if_neg hc, if_neg hc]
  ·rfl
 ·intro t
  refine ⟨(conSt args objs []).tm t, argTm vs t, ?_, ?_, hr.env t, fun _ => ⟨t, rfl, rfl, rfl⟩⟩
  ·rw [conSt_tm]
   simp only [initM, St.tm, argsFrom_look, Nat.zero_le, if_true, Nat.sub_zero, List.getElem?_map]
   cases args[t]? <;> rfl
  ·simp only [argTm]
   rw [Array.getD_eq_getD_getElem?, Array.getElem?_append]
   by_cases ht : t < vs.length
   ·rw [if_pos (by simpa using ht)]
    simp
   ·rw [if_neg (by simpa using ht), List.getElem?_eq_none (by omega)]
    simp only [Array.getElem?_replicate]
    split <;> rfl
 ·intro j hj
  simp only [initM, St.ob, init_ob] at hj
  by_cases hc : mv.contains j = true
  ·rw [if_pos hc] at hj; simp at hj
  ·rw [if_neg hc] at hj
   show (if mv.contains j = true then none else some (Oid.par j)).bind μ = (if j < objs.length then F.G j else none)
   rw [if_neg hc]
   simp only [Nat.zero_le, if_true, Nat.sub_zero] at hj
   have hjl : j < objs.length := by
    cases hq : objs[j]? with
    | none => rw [hq] at hj; simp at hj
    | some x => exact (List.getElem?_eq_some_iff.1 hq).1
   simp only [Option.bind_some, if_pos hjl]
   exact (hG j hjl).symm

def resRun (a : Act) : ResultVar → Sem Value
 | .tmp t => pure (a.tmps.getD t undef)
 | .cell b t => do loadVar t (← asAddr (a.tmps.getD b undef))
/-- One result. -/
theorem resV_run (hT : TabOk P T) {a : Act} (hr : Rel H μ F st (tmOf a) w) {x : ResultVar} {v : V} (h : resV T st x = some v) :
  ∃ u, (resRun a x).run P w = .ok u w ∧ RepS H μ v u ∧
   (v.isOwn = true → ∃ t, x = .tmp t ∧ st.tm t = v ∧ tmOf a t = u) := by
 cases x with
 | tmp t =>
  simp [resV] at h
  exact ⟨tmOf a t, rfl, h ▸ hr.env t, fun _ => ⟨t, rfl, h, rfl⟩⟩
 | cell b t =>
  simp only [resV] at h
  split at h
  ·rename_i u off ti hb hti
   split at h
   ·rename_i row cs hob
    have hti := hT _ _ hti
    cases hg : getS ti cs off with
    | none => rw [hg] at h; simp at h
    | some y =>
     rw [hg] at h
     simp at h
     subst h
     obtain ⟨bb, hbb, e⟩ := (hb ▸ hr.env b).ref
     obtain ⟨vs, ty, hblk, hrep, _⟩ := hr.cellsAt hob hbb
     obtain ⟨v, g1, g2, _⟩ := load_run (w := w) (P := P) (o0 := 0) hti hrep (fun j hj => by rw [cell?_of hblk, Nat.zero_add]; simp at hj; simp [List.getElem_take]) hg
     rw [Nat.zero_add] at g1
     refine ⟨v, ?_, (RepS.two _ _ g2).weak, fun h => by rw [weak_not_own] at h; simp at h⟩
     have e' : a.tmps.getD b undef = .pointer (some ⟨bb, off, none⟩) := e
     simp only [Instr.loadAt, Instr.sureAddr, Sem.run_bind, Sem.run_pure, Result.andThen_ok] at g1
     simp only [resRun, e', asAddr, Sem.run_bind, Sem.run_pure, Result.andThen_ok]
     exact g1
   ·simp at h
  ·simp at h
theorem weak_isTup {v : V} : v.weak.isTup = v.isTup := by cases v <;> rfl
theorem RepS.to2 {v : V} {u : Value} (h : RepS H μ v u) (ht : v.isTup = false) : Rep2 H μ v u := by
 cases h with
 | two _ _ h => exact h
 | tup => simp [V.isTup] at ht
theorem resL_run (hT : TabOk P T) {a : Act} (hr : Rel H μ F st (tmOf a) w) : ∀ (l : List ResultVar) {vs : List V}, resL T st l = some vs →
  ∃ us : List Value, (l.mapM (m := Sem) (resRun a)).run P w = .ok us w ∧ RepT H μ vs us ∧ us.length = l.length := by
 intro l
 induction l with
 | nil => intro vs h; simp [resL] at h; subst h; exact ⟨[], by simp, .nil, rfl⟩
 | cons x r ih =>
  intro vs h
  simp only [resL] at h
  split at h
  ·rename_i v l hv hl
   split at h
   ·simp at h
   ·rename_i ht
    injection h with h
    subst h
    obtain ⟨u, h1, h2, _⟩ := resV_run (P := P) hT hr hv
    obtain ⟨us, g1, g2, g3⟩ := ih hl
    refine ⟨u :: us, ?_, .cons _ _ _ _ (h2.weak.to2 (by rw [weak_isTup]; simpa using ht)) g2, by simp [g3]⟩
    rw [List.mapM_cons]
    simp only [Sem.run_bind, Sem.run_pure, h1, Result.andThen_ok, g1]
  ·simp at h

theorem parsOf_get {mv : List Nat} {f : Oid → Option Oid} : ∀ (n k : Nat) {l : List Ob}, parsOf mv f st k n = some l → l.length = n ∧ ∀ j (hj : j < l.length), ∃ x, st.ob (if mv.contains (k + j) then .alt (.par (k + j)) else .par (k + j)) = some x ∧ l[j] = x.ren f := by
 intro n
 induction n with
 | zero => intro k l h; simp [parsOf] at h; subst h; simp
 | succ n ih =>
  intro k l h
  simp only [parsOf] at h
  split at h
  ·rename_i x l' hx hl
   injection h with h
   subst h
   obtain ⟨h1, h2⟩ := ih (k + 1) hl
   refine ⟨by simp [h1], fun j hj => ?_⟩
   cases j with
   | zero => exact ⟨x, by simpa using hx, rfl⟩
   | succ j =>
    obtain ⟨y, h3, h4⟩ := h2 j (by simpa using hj)
    exact ⟨y, by rw [show k + (j + 1) = k + 1 + j from by omega]; exact h3, by simpa using h4⟩
  ·simp at h
theorem newsOf_get {f : Oid → Option Oid} : ∀ (nws : List Oid) {l : List Ob}, newsOf f st nws = some l → l.length = nws.length ∧ ∀ i (hi : i < l.length) (hi' : i < nws.length), ∃ x, st.ob nws[i] = some x ∧ l[i] = x.ren f := by
 intro nws
 induction nws with
 | nil => intro l h; simp [newsOf] at h; subst h; simp
 | cons o r ih =>
  intro l h
  simp only [newsOf] at h
  split at h
  ·rename_i x l' hx hl
   injection h with h
   subst h
   obtain ⟨h1, h2⟩ := ih hl
   refine ⟨by simp [h1], fun i hi hi' => ?_⟩
   cases i with
   | zero => exact ⟨x, hx, rfl⟩
   | succ i => exact h2 i (by simpa using hi) (by simpa using hi')
  ·simp at h

theorem results_eq (fn : Func) (tmps : Array Value) (D : List Deferred) : results fn tmps = (do let vs ← fn.results.mapM (resRun ⟨tmps, D⟩); pure (if h : vs.size = 1 then vs[0] else .tuple vs)) := by
 unfold results
 congr 2
/-- All results. -/
theorem resS_run (hT : TabOk P T) {a : Act} (hr : Rel H μ F st (tmOf a) w) {fn : Func} {v : V} (h : resS T st fn.results.toList = some v) :
  ∃ u, (results fn a.tmps).run P w = .ok u w ∧ RepS H μ v u ∧ (v.isOwn = true → ∃ t, st.tm t = v ∧ tmOf a t = u) := by
 rw [results_eq fn a.tmps a.defers, Array.mapM_eq_mapM_toList]
 simp only [bind_map_left, Sem.run_bind]
 unfold resS at h
 split at h
 ·rename_i x hx
  obtain ⟨u, h1, h2, h3⟩ := resV_run (P := P) hT hr h
  refine ⟨u, ?_, h2, fun ho => by obtain ⟨t, _, h4, h5⟩ := h3 ho; exact ⟨t, h4, h5⟩⟩
  rw [hx]
  simp [h1]
 ·rename_i hne
  cases hl : resL T st fn.results.toList with
  | none => rw [hl] at h; simp at h
  | some vs =>
   rw [hl] at h
   simp at h
   subst h
   obtain ⟨us, h1, h2, h3⟩ := resL_run (P := P) hT hr _ hl
   refine ⟨.tuple us.toArray, ?_, .tup _ _ h2, fun h => by simp [V.isOwn] at h⟩
   rw [h1]
   simp only [Result.andThen_ok, Sem.run_pure]
   have : us.toArray.size ≠ 1 := by
    simp only [List.size_toArray, h3]
    intro hl1
    match hq : fn.results.toList, hl1 with
    | [x], _ => exact hne x hq
   rw [dif_neg this]

theorem Rel.addDead {H μ F st tm w} (h : Rel H μ F st tm w) {j : Nat} (ho : st.ob (.par j) = none) : Rel H (updO μ (.par j) (F.G j)) F (st.putO (.par j) .dead) tm w := by
 have hμ := h.dom _ ho
 have hm : LeM μ (updO μ (.par j) (F.G j)) := by
  intro o b hb
  unfold updO
  split
  ·rename_i e; subst e; rw [hμ] at hb; simp at hb
  ·exact hb
 have hlv : ∀ u b, live (st.putO (.par j) .dead) (updO μ (.par j) (F.G j)) u = some b → live st μ u = some b := by
  intro u b hb
  unfold live at hb ⊢
  rw [St.ob_putO] at hb
  by_cases e : Oid.par j = u
  ·subst e; simp at hb
  ·rw [if_neg e] at hb
   unfold updO at hb
   rw [if_neg (fun e' => e e'.symm)] at hb
   exact hb
 have hat : ∀ ℓ y v, atL (updO μ (.par j) (F.G j)) (st.putO (.par j) .dead) tm w ℓ y v → atL μ st tm w ℓ y v := by
  intro ℓ y v hl
  cases ℓ with
  | t m => exact hl
  | o u i =>
   obtain ⟨row, cs, b', h1, h2, h3, h4⟩ := hl
   rw [St.ob_putO] at h1
   by_cases e : Oid.par j = u
   ·subst e; simp at h1
   ·rw [if_neg e] at h1
    unfold updO at h2
    rw [if_neg (fun e' => e e'.symm)] at h2
    exact ⟨row, cs, b', h1, h2, h3, h4⟩
 refine ⟨fun t => (h.env t).mono (Le.refl _) hm, h.heap, h.size, ?_, ?_, fun o o' b h1 h2 => h.inj o o' b (hlv _ _ h1) (hlv _ _ h2), fun o b h1 => h.objH o b (hlv _ _ h1), fun o b h1 => h.objF o b (hlv _ _ h1), h.Flt,
  fun ℓ sz xs b off n c hl => (h.own _ _ _ _ _ _ _ (hat _ _ _ hl)).sub hlv, fun ℓ ℓ' b ⟨sz, xs, off, n, c, h1⟩ ⟨sz', xs', off', n', c', h2⟩ => h.ownInj ℓ ℓ' b ⟨_, _, _, _, _, hat _ _ _ h1⟩ ⟨_, _, _, _, _, hat _ _ _ h2⟩, ?_, h.base⟩
 ·intro u hu
  rw [St.ob_putO] at hu
  split at hu
  ·simp at hu
  ·rename_i e
   unfold updO
   rw [if_neg (fun e' => e e'.symm)]
   exact h.dom u hu
 ·intro u y hy ha
  rw [St.ob_putO] at hy
  split at hy
  ·injection hy with hy; subst hy; simp [Ob.alive] at ha
  ·rename_i e
   rcases h.obs u y hy ha with ⟨b, h1, h2⟩ | h1
   ·refine .inl ⟨b, hm _ _ h1, ?_⟩
    exact h2.keep rfl (Le.refl _) hm
   ·refine .inr ⟨h1.1, ?_⟩
    unfold updO
    rw [if_neg (fun e' => e e'.symm)]
    exact h1.2
 ·intro i hi
  unfold updO
  by_cases e : i = j
  ·subst e; simp
  ·rw [if_neg (by simpa using e)]
   rw [St.ob_putO, if_neg (by intro e'; injection e' with e'; exact e e'.symm)] at hi
   exact h.par i hi
theorem Rel.fill {H F tm w} (mv : List Nat) : ∀ (n : Nat) {μ st}, Rel H μ F st tm w → ∃ μ2 st2, Rel H μ2 F st2 tm w ∧ (∀ t, st2.tm t = st.tm t) ∧ (∀ o x, st.ob o = some x → st2.ob o = some x) ∧
  (∀ o, (∀ j, o ≠ .par j) → st2.ob o = st.ob o) ∧ (∀ j, j < n → mv.contains j = false → st.ob (.par j) = none → st2.ob (.par j) = some .dead) ∧ (∀ j, n ≤ j ∨ mv.contains j = true → st2.ob (.par j) = st.ob (.par j))
 | 0, μ, st, h => ⟨μ, st, h, fun _ => rfl, fun _ _ h => h, fun _ _ => rfl, fun j hj => by omega, fun _ _ => rfl⟩
 | n + 1, μ, st, h => by
  obtain ⟨μ2, st2, h1, h2, h3, h4, h5, h6⟩ := Rel.fill mv n h
  cases ho : st2.ob (.par n) with
  | some x =>
   refine ⟨μ2, st2, h1, h2, h3, h4, fun j hj hm hn => ?_, fun j hj => h6 j (hj.imp (fun h => by omega) id)⟩
   by_cases e : j = n
   ·subst e
    by_cases hmm : mv.contains j = true
    ·rw [hmm] at hm; simp at hm
    ·rw [h6 j (.inl (Nat.le_refl _)), hn] at ho; simp at ho
   ·exact h5 j (by omega) hm hn
  | none =>
   by_cases hc : mv.contains n = true
   ·refine ⟨μ2, st2, h1, h2, h3, h4, fun j hj hm hn => ?_, fun j hj => h6 j (hj.imp (fun h => by omega) id)⟩
    by_cases e : j = n
    ·subst e; rw [hc] at hm; simp at hm
    ·exact h5 j (by omega) hm hn
   ·refine ⟨_, _, h1.addDead ho, fun t => h2 t, fun o x hx => ?_, fun o hx => ?_, fun j hj hm hn => ?_, fun j hj => ?_⟩
    ·have := h3 o x hx
     rw [St.ob_putO]
     split
     ·rename_i e; subst e; rw [ho] at this; simp at this
     ·exact this
    ·rw [St.ob_putO, if_neg (fun e => hx n e.symm)]; exact h4 o hx
    ·rw [St.ob_putO]
     split
     ·rfl
     ·rename_i e
      exact h5 j (by have : j ≠ n := fun e' => e (by rw [e']); omega) hm hn
    ·rw [St.ob_putO]
     split
     ·rename_i e
      injection e with e
      subst e
      rcases hj with hj | hj
      ·omega
      ·exact absurd hj hc
     ·exact h6 j (hj.imp (fun h => by omega) id)
theorem parsD_of {mv : List Nat} {f : Oid → Option Oid} {st st2 : St} {N : Nat} (h3 : ∀ o x, st.ob o = some x → st2.ob o = some x)
  (h4 : ∀ o, (∀ j, o ≠ .par j) → st2.ob o = st.ob o) (h5 : ∀ j, j < N → mv.contains j = false → st.ob (.par j) = none → st2.ob (.par j) = some .dead) :
  ∀ (n k : Nat), k + n ≤ N → parsOf mv f st2 k n = parsD mv f st k n
 | 0, k, _ => rfl
 | n + 1, k, hk => by
  simp only [parsOf, parsD, parsD_of h3 h4 h5 n (k + 1) (by omega)]
  have e : st2.ob (if mv.contains k = true then .alt (.par k) else .par k) = (match st.ob (if mv.contains k = true then .alt (.par k) else .par k) with | some x => some x | none => if mv.contains k = true then none else some .dead) := by
   by_cases hc : mv.contains k = true
   ·simp only [if_pos hc]
    rw [h4 _ (by intro j; simp)]
    cases st.ob (.alt (.par k)) <;> rfl
   ·simp only [if_neg hc]
    cases ho : st.ob (.par k) with
    | some x => exact h3 _ _ ho
    | none => exact h5 k (by omega) (by simpa using hc) ho
  rw [e]
  rfl
theorem resS_mono {T : Nat → Option TI} {st st2 : St} (h2 : ∀ t, st2.tm t = st.tm t) (h3 : ∀ o x, st.ob o = some x → st2.ob o = some x) : ∀ {l : List ResultVar} {r : V}, resS T st l = some r → resS T st2 l = some r := by
 have hv : ∀ {x : ResultVar} {r : V}, resV T st x = some r → resV T st2 x = some r := by
  intro x r h
  cases x with
  | tmp t => simp only [resV, h2] at h ⊢; exact h
  | cell t ty =>
   simp only [resV, h2] at h ⊢
   split at h
   ·rename_i u off ti e1 e2
    cases ho : st.ob u with
    | none => rw [ho] at h; simp at h
    | some x => rw [ho] at h; rw [h3 _ _ ho]; exact h
   ·simp at h
 have hl : ∀ {l : List ResultVar} {r : List V}, resL T st l = some r → resL T st2 l = some r := by
  intro l
  induction l with
  | nil => intro r h; exact h
  | cons x l ih =>
   intro r h
   simp only [resL] at h ⊢
   split at h
   ·rename_i v l' e1 e2
    rw [hv e1, ih e2]
    exact h
   ·simp at h
 intro l r h
 match l, h with
 | [x], h => exact hv h
 | [], h => exact h
 | x :: y :: l, h =>
  simp only [resS, Option.map_eq_some_iff] at h ⊢
  obtain ⟨a, h1, h2⟩ := h
  exact ⟨a, hl h1, h2⟩
theorem newsOf_mono {f : Oid → Option Oid} {st st2 : St} (h3 : ∀ o x, st.ob o = some x → st2.ob o = some x) : ∀ {l : List Oid} {r : List Ob}, newsOf f st l = some r → newsOf f st2 l = some r
 | [], r, h => h
 | o :: l, r, h => by
  simp only [newsOf] at h ⊢
  split at h
  ·rename_i x l' e1 e2
   rw [h3 _ _ e1, newsOf_mono h3 e2]
   exact h
  ·simp at h

/-- What a body is proved to do, as a contract. -/
theorem callM_of {mv : List Nat} {B : Heap} {f : FuncId} {fn : Func} {code : Code} (hT : TabOk P T) (hm : P.follows .mixedOrders = true) (hf : P.funcs[f]? = some fn) (hb : fn.body = some code)
  (henter : ∀ (as_ : Array Value) (w : World), (callFunc f as_).run P w = .ok (.enter f as_) w) (hint : Nat → Hint) {opt : Opt} {args : List V} {objs : List Ob} {r : V} {objs' news : List Ob} {nwl : List Oid}
  (hd : dstsOk fn.ntmps code = true) (hn : args.length ≤ fn.ntmps) (hlen : objs'.length = objs.length) (hnw : nwOk nwl = true)
  (h : awp ⟨COk P B, T, hint, opt⟩ code (initM mv args objs) fun e st => (e = .ret ∨ e = .normal) ∧ (resS T st fn.results.toList).map (renV (outn objs.length (mv) (nwl.take news.length))) = some r ∧
   parsD (mv) (outn objs.length (mv) (nwl.take news.length)) st 0 objs.length = some objs' ∧ newsOf (outn objs.length (mv) (nwl.take news.length)) st (nwl.take news.length) = some news) :
  CallM P B mv f args objs r objs' news := by
 refine ⟨henter, hlen, fun H F w μ vs hFB hvs hr => ?_⟩
 subst hFB
 refine calls_of_wp hf hb ?_
 obtain ⟨μ0, hr0, hG⟩ := init_rel (m := fn.ntmps - vs.toArray.size) hvs hr
 have hat : AtS H μ0 ⟨F.F, fun j => if j < objs.length then F.G j else none, F.B⟩ (initM mv args objs) { tmps := vs.toArray ++ Array.replicate (fn.ntmps - vs.toArray.size) undef, defers := [] } w fn.ntmps ⟨[], [], fun _ => undef⟩ :=
  ⟨hr0, by simp; omega, rfl, fun v h => by cases h⟩
 refine awp_sound (D := ⟨[], [], fun _ => undef⟩) (n := fn.ntmps) (F := ⟨F.F, fun j => if j < objs.length then F.G j else none, F.B⟩) ⟨COk P F.B, T, hint, opt⟩ rfl hT hm code hd h hat fun e st' a' w' H' μ' hq hat' hx => ?_
 generalize hnws : nwl.take news.length = nws at *
 obtain ⟨hex, hres, hpar, hnews⟩ := hq
 obtain ⟨μ2, st2, hrel2, g2, g3, g4, g5, g6⟩ := hat'.rel.fill mv objs.length
 rw [← parsD_of g3 g4 g5 objs.length 0 (by omega)] at hpar
 replace hnews := newsOf_mono g3 hnews
 have hnw2 : nws.Nodup ∧ ∀ o ∈ nws, ∀ j, o.root ≠ .par j := by
  simp only [nwOk, Bool.and_eq_true, decide_eq_true_eq, List.all_eq_true] at hnw
  rw [← hnws]
  refine ⟨hnw.1.sublist (List.take_sublist _ _), fun o ho j e => ?_⟩
  have := hnw.2 o (List.mem_of_mem_take ho)
  rw [e] at this
  simp at this
 cases hr1' : resS T st' fn.results.toList with
 | none => rw [hr1'] at hres; simp at hres
 | some r0 =>
 have hr0' := resS_mono g2 g3 hr1'
 rw [hr1'] at hres
 simp at hres
 obtain ⟨u, h1, h2, h3⟩ := resS_run (P := P) hT hrel2 hr0'
 obtain ⟨p1, p2⟩ := parsOf_get _ _ hpar
 obtain ⟨n1, n2⟩ := newsOf_get _ hnews
 have hpost : ∃ v H' μ2 F', Ending.returned u = .returned v ∧ F'.F = F.F ∧ F'.B = F.B ∧ (∀ j, j < objs.length → j ∉ mv → μ2 (.par j) = μ (.par j)) ∧
   Rel H' μ2 F' (conSt [r] objs' news) (upd noTm 0 v) w' ∧ Ext F H w H' w' := by
  refine ⟨u, H', _, ⟨F.F, fun j => ((fun u => match u with | .par j => if j < objs.length then some (if mv.contains j then .alt (.par j) else .par j) else none | .sub 0 i => nws[i]? | _ => none : Oid → Option Oid) (.par j)).bind μ2, F.B⟩, rfl, rfl, rfl, ?_,
   hrel2.rename (F' := ⟨F.F, fun j => ((fun u => match u with | .par j => if j < objs.length then some (if mv.contains j then .alt (.par j) else .par j) else none | .sub 0 i => nws[i]? | _ => none : Oid → Option Oid) (.par j)).bind μ2, F.B⟩)
    (fun u => match u with | .par j => if j < objs.length then some (if mv.contains j then .alt (.par j) else .par j) else none | .sub 0 i => nws[i]? | _ => none) (outn objs.length mv nws)
    (fun t => if t = 0 ∧ r0.isOwn = true then some (Classical.epsilon fun s : Nat => st2.tm s = r0 ∧ tmOf a' s = u) else none) rfl rfl ?_ ?_ ?_ ?_ ?_ (fun _ _ => rfl), ⟨hx.io, hx.le, hx.size, hx.frm, hx.frH⟩⟩
  ·intro j hj hjm
   have hc : ¬ mv.contains j = true := by simpa using hjm
   obtain ⟨x, hx1, _⟩ := p2 j (by omega)
   rw [Nat.zero_add, if_neg hc] at hx1
   have hp := hrel2.par j (by rw [hx1]; simp)
   show ((if j < objs.length then some (if mv.contains j = true then Oid.alt (.par j) else Oid.par j) else none).bind μ2) = μ (.par j)
   rw [if_pos hj, if_neg hc, Option.bind_some, hp]
   show (if j < objs.length then F.G j else none) = _
   rw [if_pos hj, hG j hj]
  ·intro o u' b k1 k2
   unfold outn at k1
   split at k1
   ·rename_i j
    split at k1
    ·simp at k1
    ·rename_i hc
     split at k1
     ·rename_i hj
      injection k1 with k1
      subst k1
      simp only [if_pos hj, if_neg hc]
     ·simp at k1
   ·rename_i j
    split at k1
    ·rename_i hc
     split at k1
     ·rename_i hj
      injection k1 with k1
      subst k1
      simp only [if_pos hj, if_pos hc]
     ·simp at k1
    ·simp at k1
   ·cases hp : place o nws with
    | none => rw [hp] at k1; simp at k1
    | some i =>
     rw [hp] at k1
     simp at k1
     subst k1
     exact place_some hp
  ·have hpr : ∀ (u : Oid) o, (match u with | .par j => if j < objs.length then some (if mv.contains j = true then Oid.alt (.par j) else Oid.par j) else none | .sub 0 i => nws[i]? | _ => none : Option Oid) = some o →
     (∃ j, u = .par j ∧ o.root = .par j) ∨ ∃ i, u = .sub 0 i ∧ nws[i]? = some o := by
    intro u o hu
    split at hu
    ·rename_i j
     split at hu
     ·injection hu with hu
      left
      refine ⟨j, rfl, ?_⟩
      rw [← hu]
      split <;> rfl
     ·simp at hu
    ·rename_i i
     exact .inr ⟨i, rfl, hu⟩
    ·simp at hu
   intro u1 u2 o k1 k2
   rcases hpr _ _ k1 with ⟨j, rfl, k3⟩ | ⟨i, rfl, k3⟩ <;> rcases hpr _ _ k2 with ⟨j', rfl, k4⟩ | ⟨i', rfl, k4⟩
   ·rw [k3] at k4
    injection k4 with k4
    rw [k4]
   ·exact absurd k3 (hnw2.2 o (List.mem_of_getElem? k4) j)
   ·exact absurd k4 (hnw2.2 o (List.mem_of_getElem? k3) j')
   ·obtain ⟨l1, e1⟩ := List.getElem?_eq_some_iff.1 k3
    obtain ⟨l2, e2⟩ := List.getElem?_eq_some_iff.1 k4
    have := (List.getElem_inj hnw2.1).1 (e1.trans e2.symm)
    rw [this]
  ·intro u1
   rw [conSt_ob]
   cases u1 with
   | par j =>
    dsimp only
    by_cases hj : j < objs.length
    ·obtain ⟨x, hx1, hx2⟩ := p2 j (by omega)
     rw [Nat.zero_add] at hx1
     rw [if_pos hj]
     show _ = (st2.ob _).map _
     rw [hx1, List.getElem?_eq_getElem (by omega), hx2]
     rfl
    ·rw [if_neg hj, List.getElem?_eq_none (by omega)]
   | sub t i =>
    cases t with
    | zero =>
     show news[i]? = match (nws[i]? : Option Oid) with | some o => (st2.ob o).map (Ob.ren (outn objs.length mv nws)) | none => none
     by_cases hi : i < news.length
     ·obtain ⟨x, hx1, hx2⟩ := n2 i hi (by omega)
      rw [List.getElem?_eq_getElem (show i < nws.length by omega)]
      show _ = (st2.ob _).map _
      rw [hx1, List.getElem?_eq_getElem hi, hx2]
      rfl
     ·rw [List.getElem?_eq_none (by omega), List.getElem?_eq_none (by omega)]
    | succ t => rfl
   | _ => rfl
  ·intro t t' s k1 k2
   split at k1
   ·rename_i e1
    split at k2
    ·rename_i e2
     rw [e1.1, e2.1]
    ·simp at k2
   ·simp at k1
  ·intro t
   by_cases ht : t = 0
   ·subst ht
    refine ⟨r0, u, ?_, by simp [upd], h2, fun ho => ?_⟩
    ·rw [conSt_tm]
     simp [hres]
    ·have := Classical.epsilon_spec (h3 ho)
     exact ⟨_, by rw [if_pos ⟨rfl, ho⟩], this.1, this.2⟩
   ·refine ⟨.any, noTm t, ?_, by simp [upd, ht], .two _ _ (.one _ _ (.any _)), by simp [V.isOwn]⟩
    rw [conSt_tm]
    cases t with
    | zero => exact absurd rfl ht
    | succ t => rfl
 rcases hex with rfl | rfl
 ·exact ⟨hat'.defers, u, h1, hpost⟩
 ·exact ⟨hat'.defers, u, h1, hpost⟩
end
end Go.Ax
set_option linter.unusedVariables false
set_option linter.unusedSimpArgs false
namespace Go.Ax
attribute [local simp] look_cons

def eszB (P : Program) (d : TypeDesc) : Option (Nat × Nat) → Bool
 | none => true
 | some (n, b) => match d with
  | .slice e => match P.info? e with
   | some j => j.size == n && j.bytes == b && (match j.zero with | some z => z.cells.size == n | none => false) && decide (0 < n) && decide (0 < b)
   | none => false
  | _ => false
def fldB (P : Program) : List Field → List (Nat × Nat) → Bool
 | [], [] => true
 | f :: fs, (o, n) :: r => (match P.info? f.type with | some i => f.offset == o && i.size == n && decide (n ≠ 0) | none => false) && fldB P fs r
 | _, _ => false
def zeroB (ti : TI) : Option Value → Bool
 | some z => zcs ti.zero z.cells.toList && (!ti.isAgg || (match z with | .agg _ => true | _ => false))
 | none => false
def eqB (P : Program) (t : TypeId) (d : TypeDesc) : List Nat → Bool
 | [1] => (match d with | .bool => true | _ => false)
 | [3] => (match d with | .pointer _ => true | _ => false)
 | [5] => (match d with | .slice _ => true | _ => false)
 | 10 :: ks => (match d with
  | .struct fs => fs.size == ks.length && !P.stoodInHeld t && !P.eqGuardType P.depth t && (fs.toList.zip ks).zipIdx.all fun x => x.1.1.name != "_" && x.1.1.offset == x.2 && (match P.underlying x.1.1.type with | some d => basicD x.1.2 d | none => false)
  | _ => false)
 | [] => true
 | _ => false
theorem eqB_ok {P : Program} {t : TypeId} {d : TypeDesc} {k : List Nat} (hd : P.underlying t = some d) (h : eqB P t d k = true) : EqOk P t k := by
 refine ⟨fun e => ?_, fun e => ?_, fun e => ?_, fun ks e => ?_⟩
 ·subst e
  simp [eqB] at h
  cases d <;> simp at h
  exact hd
 ·subst e
  simp [eqB] at h
  cases d <;> simp at h
  exact ⟨_, hd⟩
 ·subst e
  simp [eqB] at h
  cases d <;> simp at h
  exact ⟨_, hd⟩
 ·subst e
  simp only [eqB] at h
  cases d <;> simp only [Bool.false_eq_true] at h
  rename_i fs
  simp only [Bool.and_eq_true, Bool.not_eq_true', beq_iff_eq, List.all_eq_true] at h
  obtain ⟨⟨⟨h1, h2⟩, h3⟩, h4⟩ := h
  refine ⟨fs, hd, h1, h2, h3, fun i fd n hi hn => ?_⟩
  have := h4 ((fd, n), i) (by rw [List.mem_zipIdx_iff_getElem?]; simp only; rw [List.getElem?_zip_eq_some]; exact ⟨hi, hn⟩)
  obtain ⟨⟨g1, g2⟩, g3⟩ := this
  refine ⟨by simpa using g1, g2, ?_⟩
  cases hu : P.underlying fd.type with
  | none => rw [hu] at g3; simp at g3
  | some d => rw [hu] at g3; exact ⟨d, rfl, g3⟩
def ezB (P : Program) (d : TypeDesc) (ez : List V) : Bool :=
 ez.isEmpty || match d with
  | .slice e => match P.info? e with
   | some i => match i.zero with | some z => zcs ez z.cells.toList | none => false
   | none => false
  | _ => false
def arrB (P : Program) (d : TypeDesc) : Option (Nat × Nat) → Bool
 | none => true
 | some (n, k) => match d with
  | .array m e => m == n && match P.info? e with | some i => i.size == k | none => false
  | _ => false
def keyB (P : Program) (k : Nat) (ke : TypeId) : Bool :=
 match P.underlying ke with
 | some (.int _) => k == 2
 | some .string => k == 4
 | some (.array m e) => k == 100 && m == 2 && (match P.underlying e with | some (.int _) => true | _ => false) && (match P.info? e with | some i => i.size == 1 | none => false)
 | _ => false
def kvB (P : Program) (d : TypeDesc) : Option (Nat × V) → Bool
 | none => true
 | some (k, z) => match d with
  | .map ke e => keyB P k ke && z.pure1 && match P.info? e with
   | some i => match i.zero with | some zz => zc z zz | none => false
   | none => false
  | _ => false
def ikB (d : TypeDesc) : Option IntKind → Bool
 | none => true
 | some k => match d with | .int k' => k == k' | _ => false
def isBB (P : Program) (d : TypeDesc) (b : Bool) : Bool :=
 !b || match d with
  | .slice e => match P.underlying e with | some (.int .u8) => true | _ => false
  | _ => false
def moreB (P : Program) (d : TypeDesc) (ti : TI) : Bool := ezB P d ti.ez && arrB P d ti.arr && kvB P d ti.kv && ikB d ti.ik && isBB P d ti.isB
theorem keyB_ok {P : Program} {k : Nat} {ke : TypeId} (h : keyB P k ke = true) : KeyOk P k ke := by
 unfold keyB at h
 split at h
 ·rename_i i hu
  simp at h
  subst h
  exact ⟨fun _ => ⟨i, hu⟩, by simp, by simp, .inl rfl⟩
 ·rename_i hu
  simp at h
  subst h
  exact ⟨by simp, fun _ => hu, by simp, .inr (.inl rfl)⟩
 ·rename_i m e hu
  simp only [Bool.and_eq_true, beq_iff_eq] at h
  obtain ⟨⟨⟨rfl, rfl⟩, h3⟩, h4⟩ := h
  refine ⟨by simp, by simp, fun _ => ?_, .inr (.inr rfl)⟩
  cases hi : P.info? e with
  | none => rw [hi] at h4; simp at h4
  | some j =>
   rw [hi] at h4
   cases hue : P.underlying e with
   | none => rw [hue] at h3; simp at h3
   | some d =>
    rw [hue] at h3
    cases d <;> simp at h3
    rename_i i
    exact ⟨e, i, j, hu, hue, hi, by simpa using h4⟩
 ·simp at h
def tiB (P : Program) (t : TypeId) (ti : TI) : Bool :=
 match P.info? t, P.underlying t with
 | some i, some d =>
  i.size == ti.size && zeroB ti i.zero && (ti.isAgg || ti.size == 1) && ti.isAgg == aggD d && eszB P d ti.esz &&
  (match d with | .struct fs => fldB P fs.toList ti.flds | _ => ti.flds.isEmpty) &&
  (!ti.isStr || (match d with | .string => true | _ => false)) && eqB P t d ti.eqk && moreB P d ti
 | _, _ => false

theorem fldB_get {P : Program} : ∀ {fs : List Field} {l : List (Nat × Nat)}, fldB P fs l = true → fs.length = l.length ∧
  ∀ k (hk : k < fs.length) (hk' : k < l.length), ∃ i, P.info? fs[k].type = some i ∧ l[k] = (fs[k].offset, i.size) ∧ i.size ≠ 0
 | [], [], _ => ⟨rfl, by simp⟩
 | f :: fs, (o, n) :: l, h => by
  simp only [fldB, Bool.and_eq_true] at h
  obtain ⟨h1, h2⟩ := h
  obtain ⟨g1, g2⟩ := fldB_get h2
  refine ⟨by simp [g1], fun k hk hk' => ?_⟩
  cases k with
  | zero =>
   cases hi : P.info? f.type with
   | none => rw [hi] at h1; simp at h1
   | some i =>
    rw [hi] at h1
    simp at h1
    obtain ⟨⟨rfl, rfl⟩, h3⟩ := h1
    exact ⟨i, hi, rfl, h3⟩
  | succ k => exact g2 k (by simpa using hk) (by simpa using hk')
 | [], _ :: _, h => by simp [fldB] at h
 | _ :: _, [], h => by simp [fldB] at h

theorem tiB_ok {P : Program} {t : TypeId} {ti : TI} (h : tiB P t ti = true) : TIok P t ti := by
 unfold tiB at h
 split at h
 ·rename_i i d hi hd
  simp only [Bool.and_eq_true] at h
  obtain ⟨⟨⟨⟨⟨⟨⟨⟨h1, h2⟩, h3⟩, h4⟩, h5⟩, h6⟩, h7⟩, h8⟩, h9⟩ := h
  simp only [moreB, Bool.and_eq_true] at h9
  obtain ⟨⟨⟨⟨m1, m2⟩, m3⟩, m4⟩, m5⟩ := h9
  refine ⟨?_, ⟨d, hd, by simpa using h4⟩, ?_, ?_, ?_, ?_, ?_, ?_, ?_, ?_, ?_, ?_⟩
  ·cases hz : i.zero with
   | none => rw [hz] at h2; simp [zeroB] at h2
   | some z =>
    rw [hz] at h2
    simp only [zeroB, Bool.and_eq_true, Bool.or_eq_true, Bool.not_eq_true'] at h2
    refine ⟨i, z, hi, by simpa using h1, hz, h2.1, fun ha => ?_, fun ha => ?_⟩
    ·rcases h2.2 with h | h
     ·rw [ha] at h; simp at h
     ·cases z <;> simp at h
      exact ⟨_, rfl⟩
    ·rw [ha] at h3
     simpa using h3
  ·intro n b he
   rw [he] at h5
   simp only [eszB] at h5
   cases d <;> simp at h5
   rename_i e
   cases hj : P.info? e with
   | none => rw [hj] at h5; simp at h5
   | some j =>
    rw [hj] at h5
    simp at h5
    obtain ⟨⟨⟨⟨a1, a2⟩, a3⟩, a4⟩, a5⟩ := h5
    cases hz : j.zero with
    | none => rw [hz] at a3; simp at a3
    | some z =>
     rw [hz] at a3
     simp at a3
     exact ⟨e, j, z, hd, hj, a1, a2, hz, a3, a4, a5⟩
  ·intro f off n hf
   cases d <;> simp at h6
   all_goals try (rw [h6] at hf; simp at hf; done)
   rename_i fs
   obtain ⟨g1, g2⟩ := fldB_get h6
   obtain ⟨hlt, he⟩ := List.getElem?_eq_some_iff.1 hf
   obtain ⟨j, k1, k2, k3⟩ := g2 f (by rw [g1]; exact hlt) hlt
   rw [he] at k2
   simp at k2
   obtain ⟨rfl, rfl⟩ := k2
   have hfl : f < fs.size := by have := g1; simp at this; omega
   refine ⟨fs, fs[f], j, hd, by simp [hfl], ?_, ?_, rfl, k3⟩
   ·simp
   ·simpa using k1
  ·intro fs hfs k fd hk
   rw [hd] at hfs
   injection hfs with hfs
   subst hfs
   simp at h6
   obtain ⟨g1, g2⟩ := fldB_get h6
   obtain ⟨hlt, he⟩ := Array.getElem?_eq_some_iff.1 hk
   have hl2 : k < ti.flds.length := by rw [← g1]; simpa using hlt
   obtain ⟨j, k1, k2, k3⟩ := g2 k (by simpa using hlt) hl2
   simp only [Array.getElem_toList, he] at k1 k2
   exact ⟨j, k1, by rw [List.getElem?_eq_getElem hl2, k2]⟩
  ·intro hs
   rw [hs] at h7
   cases d <;> simp at h7
   exact hd
  ·exact eqB_ok hd h8
  ·intro n b he hez
   simp only [ezB, Bool.or_eq_true, List.isEmpty_iff] at m1
   rcases m1 with m1 | m1
   ·exact absurd m1 hez
   ·cases d <;> simp at m1
    rename_i e
    cases hj : P.info? e with
    | none => rw [hj] at m1; simp at m1
    | some j =>
     rw [hj] at m1
     simp only at m1
     cases hz : j.zero with
     | none => rw [hz] at m1; simp at m1
     | some z =>
      rw [hz] at m1
      exact ⟨e, j, z, hd, hj, hz, m1⟩
  ·intro n k he
   rw [he] at m2
   simp only [arrB] at m2
   cases d <;> simp at m2
   rename_i m e
   obtain ⟨rfl, m2⟩ := m2
   cases hj : P.info? e with
   | none => rw [hj] at m2; simp at m2
   | some j =>
    rw [hj] at m2
    exact ⟨e, j, hd, hj, by simpa using m2⟩
  ·intro k z he
   rw [he] at m3
   simp only [kvB] at m3
   cases d <;> simp at m3
   rename_i ke e
   obtain ⟨⟨m3, m6⟩, m7⟩ := m3
   cases hj : P.info? e with
   | none => rw [hj] at m7; simp at m7
   | some j =>
    rw [hj] at m7
    simp only at m7
    cases hz : j.zero with
    | none => rw [hz] at m7; simp at m7
    | some zz =>
     rw [hz] at m7
     exact ⟨ke, e, j, zz, hd, keyB_ok m3, hj, hz, m7, m6⟩
  ·intro k he
   rw [he] at m4
   simp only [ikB] at m4
   cases d <;> simp at m4
   rw [m4]
   exact hd
  ·intro he
   rw [he] at m5
   simp only [isBB, Bool.not_true, Bool.false_or] at m5
   cases d <;> simp at m5
   rename_i e
   refine ⟨e, hd, ?_⟩
   cases hu : P.underlying e with
   | none => rw [hu] at m5; simp at m5
   | some d' =>
    rw [hu] at m5
    revert m5
    split
    ·rename_i e'
     injection e' with e'
     intro _
     rw [e']
    ·intro m5; simp at m5
 ·simp at h

def tabT (l : List (Nat × TI)) (t : Nat) : Option TI := l.lookup t
theorem tab_ok {P : Program} {l : List (Nat × TI)} (h : (l.all fun x => tiB P x.1 x.2) = true) : TabOk P (tabT l) := by
 intro t ti ht
 have : (t, ti) ∈ l := by
  unfold tabT at ht
  induction l with
  | nil => simp at ht
  | cons x l ih =>
   obtain ⟨u, v⟩ := x
   simp only [List.lookup] at ht
   split at ht
   ·rename_i he
    simp at he ht
    subst he; subst ht
    simp
   ·simp only [List.all_cons, Bool.and_eq_true] at h
    exact List.mem_cons_of_mem _ (ih h.2 ht)
 exact tiB_ok (by simpa using List.all_eq_true.1 h _ this)
end Go.Ax
