/- A part of the proof of a law of this seat: no condition. -/
import Derived.Test.YtblmmaecklgbhaaAxLib
set_option linter.unusedVariables false
set_option linter.unusedSimpArgs false
namespace Go.Ax
/-! ### contracts in a table, as functions -/
abbrev Sp := List V → List Ob → Option (V × List Ob × List Ob)
def lookS : List (FuncId × Sp) → FuncId → Sp
  | [], _ => fun _ _ => none
  | (g, s) :: r, f => if g = f then s else lookS r f
def ofS (S : List (FuncId × Sp)) : Orc := fun f args objs r objs' news => lookS S f args objs = some (r, objs', news)
def SOk (P : Program) (B : Heap) (S : List (FuncId × Sp)) : Prop := ∀ f args objs r objs' news, ofS S f args objs r objs' news → CallOk P B f args objs r objs' news
def FnOk (P : Program) (B : Heap) (f : FuncId) (s : Sp) : Prop := ∀ args objs r objs' news, s args objs = some (r, objs', news) → CallOk P B f args objs r objs' news
theorem SOk.nil {P B} : SOk P B [] := fun _ _ _ _ _ _ h => by simp [ofS, lookS] at h
theorem SOk.cons {P B S f s} (h1 : FnOk P B f s) (h : SOk P B S) : SOk P B ((f, s) :: S) := fun g args objs r objs' news hg => by
  simp only [ofS, lookS] at hg
  split at hg
  · rename_i e; subst e; exact h1 _ _ _ _ _ hg
  · exact h _ _ _ _ _ _ hg
section
variable {C C' : Orc} (hC : ∀ f a o r o' n, C f a o r o' n → C' f a o r o' n)
include hC
theorem runA_orc {h : Hint} {Q Q' : St → Prop} (hq : ∀ st, Q st → Q' st) : ∀ (l : List AO) {st : St}, runA C h l st Q → runA C' h l st Q' := by
  intro l
  induction l with
  | nil => intro st hr; simp only [runA] at hr ⊢; exact hq _ hr
  | cons o r ih =>
    intro st hr
    have step : ∀ x, resK C h r st Q x → resK C' h r st Q' x := by
      intro x
      rcases x with _ | (l | ⟨f, args, objs, nw, w⟩)
      · intro h; simp [resK] at h
      · intro h; simp only [resK] at h ⊢; exact ih h
      · intro h
        simp only [resK, CallA] at h ⊢
        obtain ⟨a, b, c, h1, h0, h2⟩ := h
        exact ⟨a, b, c, hC _ _ _ _ _ _ h1, h0, ih h2⟩
    obtain ⟨g, d, k⟩ := o
    rcases g with _ | ⟨t, b⟩
    · simp only [runA] at hr ⊢; exact step _ hr
    · simp only [runA] at hr ⊢
      cases htm : st.tm t <;> rw [htm] at hr <;> simp only [brV] at hr ⊢
      rotate_left
      · rename_i vs
        cases vs with
        | nil => exact ih hr
        | cons _ _ => exact hr
      cases b
      · exact ⟨fun hx => ih (hr.1 hx), fun hx => step _ (hr.2 hx)⟩
      · exact ⟨fun hx => step _ (hr.1 hx), fun hx => ih (hr.2 hx)⟩
theorem runB_orc {h : Hint} {n : Nat} {ps : List (Nat × Nat)} {Q Q' : St → Prop} (hq : ∀ st, Q st → Q' st) : ∀ (l : List AO) {st : St} {fs : List Foot}, runB C h n ps l st fs Q → runB C' h n ps l st fs Q' := by
  intro l
  induction l with
  | nil => intro st fs hr; simp only [runB] at hr ⊢; exact ⟨hr.1, hq _ hr.2⟩
  | cons o r ih =>
    intro st fs hr
    have step : ∀ rs x, resB C h n ps r st fs Q rs x → resB C' h n ps r st fs Q' rs x := by
      intro rs x
      rcases x with _ | (l | ⟨f, args, objs, nw, w⟩)
      · intro h; simp [resB] at h
      · intro h; simp only [resB] at h ⊢; exact ih h
      · intro h
        simp only [resB, CallA] at h ⊢
        obtain ⟨a, b, c, h1, h0, h2⟩ := h
        exact ⟨a, b, c, hC _ _ _ _ _ _ h1, h0, ih h2⟩
    obtain ⟨g, d, k⟩ := o
    rcases g with _ | ⟨t, b⟩
    · simp only [runB] at hr ⊢; exact step _ _ hr
    · simp only [runB] at hr ⊢
      cases htm : st.tm t <;> rw [htm] at hr <;> simp only [brV] at hr ⊢
      rotate_left
      · rename_i vs
        cases vs with
        | nil => exact ih hr
        | cons _ _ => exact hr
      cases b
      · exact ⟨fun hx => ih (hr.1 hx), fun hx => step _ _ (hr.2 hx)⟩
      · exact ⟨fun hx => step _ _ (hr.1 hx), fun hx => ih (hr.2 hx)⟩
theorem acwp_orc : ∀ (c : AC) {st : St} {Q Q' : X → St → Prop}, (∀ e st, Q e st → Q' e st) → acwp C c st Q → acwp C' c st Q' := by
  intro c
  induction c with
  | skip => intro st Q Q' hq hr; exact hq _ _ hr
  | ret => intro st Q Q' hq hr; exact hq _ _ hr
  | exit id => intro st Q Q' hq hr; exact hq _ _ hr
  | seq a b iha ihb =>
    intro st Q Q' hq hr
    simp only [acwp] at hr ⊢
    refine iha (fun e st he => ?_) hr
    cases e with
    | normal => exact ihb hq he
    | ret => exact hq _ _ he
    | exit i => exact hq _ _ he
  | cond v a b iha ihb =>
    intro st Q Q' hq hr
    simp only [acwp] at hr ⊢
    cases hv : v.val st <;> rw [hv] at hr <;> simp only [condV] at hr ⊢
    exact ⟨fun e => iha hq (hr.1 e), fun e => ihb hq (hr.2 e)⟩
  | block id a iha =>
    intro st Q Q' hq hr
    simp only [acwp] at hr ⊢
    refine iha (fun e st he => ?_) hr
    cases e with
    | normal => exact hq _ _ he
    | ret => exact hq _ _ he
    | exit i =>
      simp only [leaveA] at he ⊢
      split at he <;> rename_i hi
      · rw [if_pos hi]; exact hq _ _ he
      · rw [if_neg hi]; exact hq _ _ he
  | loop l a iha =>
    intro st Q Q' hq hr
    simp only [acwp] at hr ⊢
    obtain ⟨n, hn⟩ := hr
    refine ⟨n, ?_⟩
    induction n generalizing st with
    | zero => exact hn.elim
    | succ n ih =>
      simp only [iter] at hn ⊢
      refine iha (fun e st he => ?_) hn
      cases e with
      | normal => exact ih he
      | ret => exact hq _ _ he
      | exit i => exact hq _ _ he
  | reg l ops => intro st Q Q' hq hr; exact runA_orc hC (hq .normal) _ hr
  | regD l ps ops => intro st Q Q' hq hr; exact runB_orc hC (hq .normal) _ hr
end
def callV (x : Option (V × List Ob × List Ob)) (nw : Nat) (K : V → List Ob → List Ob → Prop) : Prop :=
  match x with
  | some (r, o, n) => n.length ≤ nw ∧ K r o n
  | none => False
@[simp] theorem callV_some (r : V) (o n : List Ob) (nw : Nat) (K : V → List Ob → List Ob → Prop) : callV (some (r, o, n)) nw K = (n.length ≤ nw ∧ K r o n) := rfl
@[simp] theorem callA_ofS (S : List (FuncId × Sp)) (f : FuncId) (args : List V) (objs : List Ob) (nw : Nat) (K : V → List Ob → List Ob → Prop) : CallA (ofS S) f args objs nw K = callV (lookS S f args objs) nw K := by
  unfold CallA ofS callV
  cases lookS S f args objs with
  | none => simp
  | some x =>
    obtain ⟨r, o, n⟩ := x
    apply propext
    constructor
    · rintro ⟨_, _, _, h, h2⟩; simp at h; obtain ⟨rfl, rfl, rfl⟩ := h; exact h2
    · intro h; exact ⟨_, _, _, rfl, h⟩
@[simp] theorem lookS_cons (g : FuncId) (s : Sp) (r : List (FuncId × Sp)) (f : FuncId) : lookS ((g, s) :: r) f = if g = f then s else lookS r f := rfl
theorem viaS {P : Program} {B : Heap} {S : List (FuncId × Sp)} (hS : SOk P B S) {c : AC} {st : St} {Q : X → St → Prop} (h : acwp (ofS S) c st Q) : acwp (CallOk P B) c st Q :=
  acwp_orc (fun f a o r o' n => hS f a o r o' n) c (fun _ _ h => h) h
end Go.Ax
