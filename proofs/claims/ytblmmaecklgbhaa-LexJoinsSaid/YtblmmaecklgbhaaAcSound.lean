/- A part of the proof of a law of this seat: no condition. -/
import Derived.Test.YtblmmaecklgbhaaAcRun
set_option linter.unusedVariables false
set_option linter.unusedSimpArgs false
namespace Go.Ax
theorem runB_sound {C : Orc} {T : Nat → Option TI} {M : Mode} {all : List Oper} {h : Hint} {n : Nat} {ps : List (Nat × Nat)} {Q : List Foot → St → Prop} {Q' : St → Prop}
    (hQ : ∀ fs st, FinD h fs n ps Q' st → Q fs st) : ∀ (ops : List Oper) {l : List AO} {st : St} {fs : List Foot}, cOps T M all ops = some l →
    runB C h n ps l st fs Q' → runD C T M all ops st fs Q := by
  intro ops
  induction ops with
  | nil => intro l st fs hl hr; simp [cOps] at hl; subst hl; simp only [runB] at hr; exact hQ _ _ hr
  | cons o r ih =>
    intro l st fs hl hr
    simp only [cOps, Option.bind_eq_bind, Option.bind_eq_some_iff] at hl
    obtain ⟨k, h1, g, h2, l', h3, hl⟩ := hl
    injection hl with hl
    subst hl
    have step : ∀ rs, resB C h n ps l' st fs Q' rs ((evA o.dst k).run st) → (match (opF T M o).run st with
        | some (.ws l) => runD C T M all r (st.app l) (fs ++ [⟨rs, l.map Wr.wh⟩]) Q
        | some (.call f args objs nw w) => ∃ r' objs' news, C f args objs r' objs' news ∧ news.length ≤ nw ∧ runD C T M all r (st.app (back w r' objs' news))
          (fs ++ [⟨rs, (back w r' objs' news).map Wr.wh⟩]) Q
        | none => False) := by
      intro rs
      rw [cB_eq h1]
      cases (evA o.dst k).run st with
      | none => intro h; simp [resB] at h
      | some x => cases x with
        | ws l => intro h; simp only [resB] at h; exact ih h3 h
        | call f args objs nw w =>
          intro h
          simp only [resB, CallA] at h
          obtain ⟨a, b, c, h4, h0, h5⟩ := h
          exact ⟨a, b, c, h4, h0, ih h3 h5⟩
    unfold runD
    rw [wantedA_run h2, wantedA_reads h2]
    cases g with
    | none =>
      simp only [runB] at hr
      have := step _ hr
      rw [cB_eq h1] at this ⊢
      exact this
    | some tb =>
      obtain ⟨t, b⟩ := tb
      simp only [runB] at hr
      cases htm : st.tm t <;> rw [htm] at hr <;> simp only [brV] at hr
      rotate_left
      · rename_i vs
        cases vs with
        | nil => simp [htm]; exact ih h3 hr
        | cons _ _ => exact hr.elim
      rename_i x
      cases b <;> cases x <;> simp [br, htm] at hr ⊢
      · have := step _ hr; rw [cB_eq h1] at this ⊢; exact this
      · exact ih h3 hr
      · exact ih h3 hr
      · have := step _ hr; rw [cB_eq h1] at this ⊢; exact this

/-- The part of the order that no state enters. -/
def orderSt (ops : List Oper) : Bool :=
  let cl := clos ops
  (ops.zipIdx).all fun x =>
    (binding x.1).all (fun e => decide (e < x.2)) &&
    (cl.getD x.2 []).all (fun c => (binding x.1).any fun e => c == e || (cl.getD e []).contains c)
def pairsOf (ops : List Oper) : List (Nat × Nat) :=
  let cl := clos ops
  (List.range ops.length).flatMap fun x => ((List.range x).filter fun c => !(cl.getD x []).contains c).map fun c => (c, x)
theorem order_of {ops : List Oper} {fs : List Foot} (h1 : orderSt ops = true) (h2 : fs.length = ops.length)
    (h3 : ((pairsOf ops).all fun p => !((fs.getD p.1 ⟨[], []⟩).clash (fs.getD p.2 ⟨[], []⟩))) = true) : orderOk ops fs = true := by
  unfold orderOk
  simp only [Bool.and_eq_true, h2, beq_self_eq_true, true_and]
  rw [List.all_eq_true]
  intro x hx
  have g1 := List.all_eq_true.1 h1 x hx
  simp only [Bool.and_eq_true] at g1 ⊢
  refine ⟨⟨g1.1, g1.2⟩, ?_⟩
  rw [List.all_eq_true]
  intro c hc
  have hlt : c < x.2 := List.mem_range.1 hc
  have hxl : x.2 < ops.length := by
    have := List.mem_zipIdx hx
    omega
  by_cases hcc : ((clos ops).getD x.2 []).contains c = true
  · rw [hcc]; simp
  · have : (c, x.2) ∈ pairsOf ops := by
      simp only [pairsOf, List.mem_flatMap, List.mem_range, List.mem_map, List.mem_filter]
      exact ⟨x.2, hxl, c, ⟨hlt, by simpa using hcc⟩, rfl⟩
    have := List.all_eq_true.1 h3 _ this
    simp only at this
    rw [this]; rfl

def cCode (T : Nat → Option TI) (p : Opt) (hint : Nat → Hint) : Code → Option AC
  | .skip => some .skip
  | .ret => some .ret
  | .exit id => some (.exit id)
  | .seq a b => do let a ← cCode T p hint a; let b ← cCode T p hint b; some (.seq a b)
  | .cond x a b => do let x ← cO x; let a ← cCode T p hint a; let b ← cCode T p hint b; some (.cond x a b)
  | .block id a => do let a ← cCode T p hint a; some (.block id a)
  | .loop a => do let h := hint (2 * (firstReg a).getD 0 + 1); let a ← cCode T p hint a; some (.loop h a)
  | .region id ops false => do let l ← cOps T (modeOf ops.toList p) ops.toList ops.toList; some (.reg (hint (2 * id)) l)
  | .region id ops true => do
    let l ← cOps T (modeOf ops.toList p) ops.toList ops.toList
    if orderSt ops.toList then some (.regD (hint (2 * id)) (pairsOf ops.toList) l) else none
  | _ => none

def condV (v : V) (A B : Prop) : Prop :=
  match v with
  | .bool x => br x A B
  | _ => False
/-- What follows a part of the code. -/
def nextA (K : St → Prop) (Q : X → St → Prop) : X → St → Prop
  | .normal, st => K st
  | e, st => Q e st
def leaveA (id : Nat) (Q : X → St → Prop) : X → St → Prop
  | .exit i, st => if i = id then Q .normal st else Q (.exit i) st
  | e, st => Q e st
def acwp (C : Orc) : AC → St → (X → St → Prop) → Prop
  | .skip, st, Q => Q .normal st
  | .ret, st, Q => Q .ret st
  | .exit id, st, Q => Q (.exit id) st
  | .seq a b, st, Q => acwp C a st (nextA (fun st => acwp C b st Q) Q)
  | .cond x a b, st, Q => condV (x.val st) (acwp C a st Q) (acwp C b st Q)
  | .block id a, st, Q => acwp C a st (leaveA id Q)
  | .loop h a, st, Q => ∃ n, iter (fun st Q => acwp C a (restrict h st) Q) Q n st
  | .reg h ops, st, Q => runA C h ops st (Q .normal)
  | .regD h ps ops, st, Q => runB C h ops.length ps ops st [] (Q .normal)
theorem cOps_len {T : Nat → Option TI} {M : Mode} {all : List Oper} : ∀ (ops : List Oper) {l : List AO}, cOps T M all ops = some l → l.length = ops.length := by
  intro ops
  induction ops with
  | nil => intro l h; simp [cOps] at h; subst h; rfl
  | cons o r ih =>
    intro l hl
    simp only [cOps, Option.bind_eq_bind, Option.bind_eq_some_iff] at hl
    obtain ⟨k, h1, g, h2, l', h3, hl⟩ := hl
    injection hl with hl
    subst hl
    simp [ih h3]
theorem ev_val {x : Operand} {s : Src} (h : cO x = some s) (st : St) : (ev x).run st = some (s.val st) := by
  cases x <;> simp [cO] at h <;> subst h <;> rfl
theorem acwp_sound {C : Orc} {T : Nat → Option TI} {p : Opt} {hint : Nat → Hint} : ∀ (c : Code) {a : AC} {st : St} {Q Q' : X → St → Prop}, cCode T p hint c = some a →
    (∀ e st, Q e st → Q' e st) → acwp C a st Q → awp ⟨C, T, hint, p⟩ c st Q' := by
  intro c
  induction c with
  | skip => intro a st Q Q' h hq hr; simp [cCode] at h; subst h; exact hq _ _ hr
  | ret => intro a st Q Q' h hq hr; simp [cCode] at h; subst h; exact hq _ _ hr
  | exit id => intro a st Q Q' h hq hr; simp [cCode] at h; subst h; exact hq _ _ hr
  | seq a b iha ihb =>
    intro a' st Q Q' h hq hr
    simp only [cCode, Option.bind_eq_bind, Option.bind_eq_some_iff] at h
    obtain ⟨x, h1, y, h2, h⟩ := h
    injection h with h; subst h
    simp only [acwp] at hr
    simp only [awp]
    refine iha h1 (fun e st he => ?_) hr
    cases e with
    | normal => exact ihb h2 hq he
    | ret => exact hq _ _ he
    | exit i => exact hq _ _ he
  | cond v a b iha ihb =>
    intro a' st Q Q' h hq hr
    simp only [cCode, Option.bind_eq_bind, Option.bind_eq_some_iff] at h
    obtain ⟨s, h0, x, h1, y, h2, h⟩ := h
    injection h with h; subst h
    simp only [acwp] at hr
    simp only [awp, ev_val h0]
    cases hv : s.val st <;> rw [hv] at hr <;> simp only [condV] at hr
    rename_i t
    cases t
    · exact ihb h2 hq (hr.2 rfl)
    · exact iha h1 hq (hr.1 rfl)
  | block id a iha =>
    intro a' st Q Q' h hq hr
    simp only [cCode, Option.bind_eq_bind, Option.bind_eq_some_iff] at h
    obtain ⟨x, h1, h⟩ := h
    injection h with h; subst h
    simp only [acwp] at hr
    simp only [awp]
    refine iha h1 (fun e st he => ?_) hr
    cases e with
    | normal => exact hq _ _ he
    | ret => exact hq _ _ he
    | exit i =>
      simp only [leaveA] at he ⊢
      split at he <;> rename_i hi
      · rw [if_pos hi]; exact hq _ _ he
      · rw [if_neg hi]; exact hq _ _ he
  | loop a iha =>
    intro a' st Q Q' h hq hr
    simp only [cCode, Option.bind_eq_bind, Option.bind_eq_some_iff] at h
    obtain ⟨x, h1, h⟩ := h
    injection h with h; subst h
    simp only [acwp] at hr
    obtain ⟨n, hn⟩ := hr
    simp only [awp]
    refine ⟨n, ?_⟩
    induction n generalizing st with
    | zero => exact hn.elim
    | succ n ih =>
      simp only [iter] at hn ⊢
      refine iha h1 (fun e st he => ?_) hn
      cases e with
      | normal => exact ih he
      | ret => exact hq _ _ he
      | exit i => exact hq _ _ he
  | region id ops draw =>
    intro a' st Q Q' h hq hr
    cases draw with
    | false =>
      simp only [cCode, Option.bind_eq_bind, Option.bind_eq_some_iff] at h
      obtain ⟨l, h1, h⟩ := h
      injection h with h; subst h
      simp only [acwp] at hr
      simp only [awp]
      have := runA_sound (Q := Q' .normal) _ h1 (runA_mono _ (fun st => hq .normal st) hr)
      exact this
    | true =>
      simp only [cCode, Option.bind_eq_bind, Option.bind_eq_some_iff] at h
      obtain ⟨l, h1, h⟩ := h
      split at h
      · rename_i ho
        injection h with h; subst h
        simp only [acwp] at hr
        simp only [awp]
        refine runB_sound (fun fs st hf => ?_) _ h1 hr
        obtain ⟨⟨g1, g2⟩, g3⟩ := hf
        exact ⟨order_of ho (by rw [g1, cOps_len _ h1]) g2, hq _ _ g3⟩
      · simp at h
  | _ => intro a' st Q Q' h; simp [cCode] at h
end Go.Ax
