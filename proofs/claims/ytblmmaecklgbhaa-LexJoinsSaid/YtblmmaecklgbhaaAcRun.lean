/- A part of the proof of a law of this seat: no condition. -/
import Derived.Test.YtblmmaecklgbhaaAcEq
set_option linter.unusedVariables false
set_option linter.unusedSimpArgs false
namespace Go.Ax
def AK.notCall : AK → Bool
  | .call .. => false
  | .callD .. => false
  | _ => true
def cB (T : Nat → Option TI) (M : Mode) (o : Oper) : Option AK :=
  match o.op with
  | .call { callee := .value f, args, argTypes } => do
    let xs ← cOs args.toList
    if xs.length = args.size then
      match f with
      | .func g => some (.call (argTypes.toList.map fun t => eOf (T t)) (gvOf M g args.toList) (M.nw g) g xs)
      | f => do let s ← cO f; some (.callD (argTypes.toList.map fun t => eOf (T t)) s xs)
    else none
  | _ => (cS T M o).bind fun k => if k.notCall then some k else none
theorem evA_not {d : Option Nat} {k : AK} (h : k.notCall = true) : evA d k = (do let .ws l ← evS d k; pure (.ws l)) := by
  cases k <;> first | rfl | simp [AK.notCall] at h
theorem zip_fix (T : Nat → Option TI) : ∀ (vs : List V) (ts : List Nat), vs.zipWith (fun v t => fixT (T t) v) ts = vs.zipWith (fun v e => fixE e v) (ts.map fun t => eOf (T t)) := by
  intro vs
  induction vs with
  | nil => intro ts; simp
  | cons v r ih => intro ts; cases ts with
    | nil => simp
    | cons t ts => rw [List.zipWith_cons_cons, List.map_cons, List.zipWith_cons_cons, ih, fixT_eq]
theorem cB_eq {T : Nat → Option TI} {M : Mode} {o : Oper} {k : AK} (h : cB T M o = some k) : opF T M o = evA o.dst k := by
  have other : (cS T M o).bind (fun k => if k.notCall then some k else none) = some k → (opS T M o >>= fun | .ws l => pure (.ws l)) = evA o.dst k := by
    intro h
    rw [Option.bind_eq_some_iff] at h
    obtain ⟨k', h1, h2⟩ := h
    split at h2
    · rename_i hn
      injection h2 with h2
      subst h2
      rw [evA_not hn, cS_eq h1]
    · simp at h2
  obtain ⟨dst, op, type, pos, after, guard⟩ := o
  cases op
  case call c =>
    obtain ⟨callee, args, argTypes⟩ := c
    rcases callee with f | ⟨r, m⟩ | b
    · simp only [cB, Option.bind_eq_bind, Option.bind_eq_some_iff] at h
      obtain ⟨xs, h2, h⟩ := h
      split at h
      · rename_i hl
        split at h
        · rename_i g
          injection h with h; subst h
          simp only [opF, evA, cOs_eq h2, zip_fix, hl]
        · rename_i hng
          simp only [Option.bind_eq_some_iff] at h
          obtain ⟨s, h1, h⟩ := h
          injection h with h; subst h
          cases f with
          | func g => exact absurd rfl (hng g)
          | tmp t => simp only [opF, evA, cOs_eq h2, zip_fix, hl, cO_eq h1]; rfl
          | const v => simp only [opF, evA, cOs_eq h2, zip_fix, hl, cO_eq h1]; rfl
          | global g => simp [cO] at h1
      · simp at h
    · exact other h
    · exact other h
  all_goals exact other h

def cG (all : List Oper) (o : Oper) : Option (Option (Nat × Bool)) :=
  match o.guard with
  | none => some none
  | some (j, b) => match (all[j]?).bind (·.dst) with
    | some t => some (some (t, b))
    | none => none
def cOps (T : Nat → Option TI) (M : Mode) (all : List Oper) : List Oper → Option (List AO)
  | [] => some []
  | o :: r => do let k ← cB T M o; let g ← cG all o; let l ← cOps T M all r; some (⟨g, o.dst, k⟩ :: l)

/-! #### running it -/
def Src.val (st : St) : Src → V
  | .t n => st.tm n
  | .v x => x
def Fin (Q : St → Prop) (st : St) : Prop := Q st
def br (x : Bool) (A B : Prop) : Prop := (x = true → A) ∧ (x = false → B)
def CallA (C : Orc) (f : FuncId) (args : List V) (objs : List Ob) (nw : Nat) (K : V → List Ob → List Ob → Prop) : Prop := ∃ r objs' news, C f args objs r objs' news ∧ news.length ≤ nw ∧ K r objs' news
def brV (v : V) (b : Bool) (A B : Prop) : Prop :=
  match v with
  | .bool x => if b then br x A B else br x B A
  | .tup [] => B
  | _ => False
mutual
def runA (C : Orc) (h : Hint) : List AO → St → (St → Prop) → Prop
  | [], st, Q => Fin Q (restrict h st)
  | ⟨none, d, k⟩ :: r, st, Q => resK C h r st Q ((evA d k).run st)
  | ⟨some (t, b), d, k⟩ :: r, st, Q => brV (st.tm t) b (resK C h r st Q ((evA d k).run st)) (runA C h r (st.app (out d (.tup []))) Q)
def resK (C : Orc) (h : Hint) (r : List AO) (st : St) (Q : St → Prop) : Option Res → Prop
  | some (.ws l) => runA C h r (st.app l) Q
  | some (.call f args objs nw w) => CallA C f args objs nw fun v os ns => runA C h r (st.app (back w v os ns)) Q
  | none => False
end
def FinD (h : Hint) (fs : List Foot) (n : Nat) (ps : List (Nat × Nat)) (Q : St → Prop) (st : St) : Prop :=
  (fs.length = n ∧ (ps.all fun p => !((fs.getD p.1 ⟨[], []⟩).clash (fs.getD p.2 ⟨[], []⟩))) = true) ∧ Fin Q (restrict h st)
mutual
def runB (C : Orc) (h : Hint) (n : Nat) (ps : List (Nat × Nat)) : List AO → St → List Foot → (St → Prop) → Prop
  | [], st, fs, Q => FinD h fs n ps Q st
  | ⟨none, d, k⟩ :: r, st, fs, Q => resB C h n ps r st fs Q ((evA d k).reads st) ((evA d k).run st)
  | ⟨some (t, b), d, k⟩ :: r, st, fs, Q => brV (st.tm t) b (resB C h n ps r st fs Q (.t t :: (evA d k).reads st) ((evA d k).run st))
    (runB C h n ps r (st.app (out d (.tup []))) (fs ++ [⟨[.t t], (out d (.tup [])).map Wr.wh⟩]) Q)
def resB (C : Orc) (h : Hint) (n : Nat) (ps : List (Nat × Nat)) (r : List AO) (st : St) (fs : List Foot) (Q : St → Prop) (rs : List Wh) : Option Res → Prop
  | some (.ws l) => runB C h n ps r (st.app l) (fs ++ [⟨rs, l.map Wr.wh⟩]) Q
  | some (.call f args objs nw w) => CallA C f args objs nw fun v os ns => runB C h n ps r (st.app (back w v os ns)) (fs ++ [⟨rs, (back w v os ns).map Wr.wh⟩]) Q
  | none => False
end

theorem wantedA_run {all : List Oper} {o : Oper} {g : Option (Nat × Bool)} (h : cG all o = some g) (st : St) :
    (wanted all o).run st = match g with | none => some (some true) | some (t, b) => match st.tm t with | .bool x => some (some (x == b)) | .tup [] => some (some false) | _ => some none := by
  unfold cG at h
  unfold wanted
  cases hg : o.guard with
  | none => rw [hg] at h; simp at h; subst h; rfl
  | some jb =>
    obtain ⟨j, b⟩ := jb
    rw [hg] at h
    simp only at h ⊢
    cases hj : (all[j]?).bind (·.dst) with
    | none => rw [hj] at h; simp at h
    | some t =>
      rw [hj] at h
      simp at h
      subst h
      simp only [Rd.run]
      cases st.tm t with
      | tup vs => cases vs <;> rfl
      | _ => rfl
theorem wantedA_reads {all : List Oper} {o : Oper} {g : Option (Nat × Bool)} (h : cG all o = some g) (st : St) :
    (wanted all o).reads st = match g with | none => [] | some (t, b) => [.t t] := by
  unfold cG at h
  unfold wanted
  cases hg : o.guard with
  | none => rw [hg] at h; simp at h; subst h; rfl
  | some jb =>
    obtain ⟨j, b⟩ := jb
    rw [hg] at h
    simp only at h ⊢
    cases hj : (all[j]?).bind (·.dst) with
    | none => rw [hj] at h; simp at h
    | some t =>
      rw [hj] at h
      simp at h
      subst h
      simp only [Rd.reads]
      cases st.tm t with
      | tup vs => cases vs <;> rfl
      | _ => rfl
theorem runA_mono {C : Orc} {h : Hint} {Q Q' : St → Prop} : ∀ (l : List AO) {st : St}, (∀ st, Q st → Q' st) → runA C h l st Q → runA C h l st Q' := by
  intro l
  induction l with
  | nil => intro st hq hr; simp only [runA] at hr ⊢; exact hq _ hr
  | cons o r ih =>
    intro st hq hr
    have step : ∀ x, resK C h r st Q x → resK C h r st Q' x := by
      intro x
      rcases x with _ | (l | ⟨f, args, objs, nw, w⟩)
      · intro h; simp [resK] at h
      · intro h; simp only [resK] at h ⊢; exact ih hq h
      · intro h
        simp only [resK, CallA] at h ⊢
        obtain ⟨a, b, c, h1, h0, h2⟩ := h
        exact ⟨a, b, c, h1, h0, ih hq h2⟩
    obtain ⟨g, d, k⟩ := o
    rcases g with _ | ⟨t, b⟩
    · simp only [runA] at hr ⊢; exact step _ hr
    · simp only [runA] at hr ⊢
      cases htm : st.tm t <;> rw [htm] at hr <;> simp only [brV] at hr ⊢
      rotate_left
      · rename_i vs
        cases vs with
        | nil => exact ih hq hr
        | cons _ _ => exact hr
      cases b
      · exact ⟨fun hx => ih hq (hr.1 hx), fun hx => step _ (hr.2 hx)⟩
      · exact ⟨fun hx => step _ (hr.1 hx), fun hx => ih hq (hr.2 hx)⟩
theorem runA_sound {C : Orc} {T : Nat → Option TI} {M : Mode} {all : List Oper} {h : Hint} {Q : St → Prop} : ∀ (ops : List Oper) {l : List AO} {st : St}, cOps T M all ops = some l →
    runA C h l st Q → runOps C T M all ops st fun st => Q (restrict h st) := by
  intro ops
  induction ops with
  | nil => intro l st hl hr; simp [cOps] at hl; subst hl; simpa [runA, runOps, Fin] using hr
  | cons o r ih =>
    intro l st hl hr
    simp only [cOps, Option.bind_eq_bind, Option.bind_eq_some_iff] at hl
    obtain ⟨k, h1, g, h2, l', h3, hl⟩ := hl
    injection hl with hl
    subst hl
    have step : resK C h l' st Q ((evA o.dst k).run st) → (match (opF T M o).run st with
        | some (.ws l) => runOps C T M all r (st.app l) fun st => Q (restrict h st)
        | some (.call f args objs nw w) => ∃ r' objs' news, C f args objs r' objs' news ∧ news.length ≤ nw ∧ runOps C T M all r (st.app (back w r' objs' news)) fun st => Q (restrict h st)
        | none => False) := by
      rw [cB_eq h1]
      cases (evA o.dst k).run st with
      | none => intro h; simp [resK] at h
      | some x => cases x with
        | ws l => intro h; simp only [resK] at h; exact ih h3 h
        | call f args objs nw w =>
          intro h
          simp only [resK, CallA] at h
          obtain ⟨a, b, c, h4, h0, h5⟩ := h
          exact ⟨a, b, c, h4, h0, ih h3 h5⟩
    unfold runOps
    rw [wantedA_run h2]
    cases g with
    | none => simp only [runA] at hr; exact step hr
    | some tb =>
      obtain ⟨t, b⟩ := tb
      simp only [runA] at hr
      cases htm : st.tm t <;> rw [htm] at hr <;> simp only [brV] at hr
      rotate_left
      · rename_i vs
        cases vs with
        | nil => simp [htm]; exact ih h3 hr
        | cons _ _ => exact hr.elim
      rename_i x
      cases b <;> cases x <;> simp [br, htm] at hr ⊢
      · exact step hr
      · exact ih h3 hr
      · exact ih h3 hr
      · exact step hr
end Go.Ax
