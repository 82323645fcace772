/- A part of the proof of a law of this seat: no condition. -/
import Derived.Test.YtjabgfnljbnmmaaDoorA8
import Derived.Below
set_option linter.unusedVariables false
set_option linter.unusedSimpArgs false
namespace Go.Ax
theorem repArgs_of {H : Heap} {μ : Oid → Option Nat} {F : Fr} {w : World} {args : List V} {objs news : List Ob} {vs : List Value} (hl : args.length = vs.length) (hr : Rel H μ F (conSt args objs news) (argTm vs) w) : RepArgs H μ args vs := by
 refine ⟨hl, fun j hj hj' => ?_⟩
 have := hr.env j
 rw [conSt_tm, List.getElem?_eq_getElem hj] at this
 simpa [argTm, hj'] using this
theorem Rel.grow {H : Heap} {μ : Oid → Option Nat} {F : Fr} {st : St} {tm : Nat → Value} : ∀ (os : List Obj) {w w' : World}, Rel H μ F st tm w → w'.heap = w.heap ++ os.toArray → Rel H μ F st tm w'
 | [], w, w', h, hh => h.world (by simpa using hh)
 | o :: os, w, w', h, hh => by
  have h1 : Rel H μ F st tm { w with heap := w.heap.push o } := by
   refine h.push o rfl (Le.refl _) (fun _ _ _ => rfl) (fun k v hv => ?_) (fun _ _ => rfl) ?_
   ·rw [h.noNew k] at hv; cases hv
   ·have := h.size w.heap.size
    have e : blkSize w w.heap.size = 0 := by simp [blkSize]
    omega
  refine h1.grow os (w' := w') ?_
  rw [hh]
  simp
/-- A contract out of a law on calls of data that leave what there was as it was. -/
theorem callOk_grow {P : Program} {B : Heap} {f : FuncId} {args : List V} {r : V}
  (henter : ∀ (as_ : Array Value) (w : World), (callFunc f as_).run P w = .ok (.enter f as_) w) (hro : r.isOwn = false)
  (h : ∀ (H : Heap) (μ : Oid → Option Nat) (w : World) (us : List Value), RepArgs H μ args us → (∀ b o, B.blk b = some o → w.heap[b]? = some o) →
   Calls P f us.toArray w fun e w' => ∃ u, e = .returned u ∧ (∀ H' μ', RepS H' μ' r u) ∧ RowKit.Below w.heap.size w w') : CallOk P B f args [] r [] [] := by
 refine ⟨henter, rfl, fun H F w μ us hFB hl hr0 => ?_⟩
 refine (h H μ w us (repArgs_of hl hr0) (fun b o hb => (hr0.Flt.2 b o (by rw [hFB]; exact hb)).2)).mono ?_
 rintro e w' ⟨u, rfl, hu, hb⟩
 have hh : w'.heap = w.heap ++ (w'.heap.toList.drop w.heap.size).toArray := by
  apply Array.ext'
  simp only [Array.toList_append]
  rw [← List.take_append_drop w.heap.size w'.heap.toList]
  congr 1
  ·apply List.ext_getElem?
   intro i
   rw [List.getElem?_take]
   split
   ·rename_i hi
    have := hb.block i hi
    simpa [Array.getElem?_toList] using this
   ·rename_i hi
    rw [List.getElem?_eq_none (by simpa using hi)]
  ·simp
 have hr1 := hr0.grow _ hh
 refine ⟨u, H, fun _ => none, F, rfl, rfl, rfl, by simp, ?_, ⟨hb.os, hb.tape, hb.output⟩, Le.refl _, hb.size, fun b _ hlt => hb.block b hlt, fun _ _ _ _ => rfl⟩
 have h0 := hr1.rename (F' := F) (fun _ => none) (fun _ => none) (fun _ => none) (st' := ⟨[], []⟩) (tm' := noTm) rfl rfl (by simp) (by simp) (fun u => rfl) (by simp) (fun t => ⟨.any, noTm t, rfl, rfl, .two _ _ (.one _ _ (.any _)), by simp [V.isOwn]⟩) (by simp [St.ob, lookO])
 exact h0.put (t := 0) (hu H _) (fun sz xs _ _ _ _ e => by rw [e] at hro; simp [V.isOwn] at hro)
/-- What is answered, told less. -/
theorem CallOk.weakR {P : Program} {B : Heap} {f : FuncId} {args : List V} {objs : List Ob} {r : V} {objs' news : List Ob} (h : CallOk P B f args objs r objs' news) : CallOk P B f args objs r.weak objs' news := by
 refine ⟨h.enter, h.len, fun H F w μ vs hFB hl hr => (h.calls H F w μ vs hFB hl hr).mono ?_⟩
 rintro e w' ⟨v, H', μ', F', h1, h2, h3, h4, h5, h6⟩
 refine ⟨v, H', μ', F', h1, h2, h3, h4, ?_, h6⟩
 refine (h5.weakT 0).1.congr (fun t => ?_) (fun o => ?_)
 ·rw [St.tm_put]
  by_cases e : t = 0
  ·subst e; rw [if_pos rfl, conSt_tm, conSt_tm]; rfl
  ·rw [if_neg (fun e' => e e'.symm), conSt_tm, conSt_tm, List.getElem?_eq_none (by simp; omega), List.getElem?_eq_none (by simp; omega)]
 ·rw [St.ob_put, conSt_ob, conSt_ob]
theorem repArgs1 {H μ a us} (h : RepArgs H μ [a] us) : ∃ x, us = [x] ∧ RepS H μ a x := by
 match us, h.len with
 | [x], _ => exact ⟨x, rfl, h.get 0 (by simp) (by simp)⟩
/-- All that a world has, kept. -/
def worldH (w : World) : Heap := ⟨fun b o => w.cell? ⟨b, o, none⟩, fun b => blkSize w b, fun _ => none⟩
theorem blk_lt {w : World} {b : Nat} {o : Obj} (h : w.heap[b]? = some o) : b < w.heap.size := (Array.getElem?_eq_some_iff.1 h).1
/-- A law's call, where its arguments are data that lead to no memory. -/
theorem below_of {P : Program} (w : World) {B : Heap} {f : FuncId} {args : List V} {r : V} {vs : List Value} {u : Value} (h : CallOk P B f args [] r [] [])
  (hargs : RepArgs (worldH w) (fun _ => none) args vs) (hno : ∀ x ∈ args, x.isOwn = false) (hr : ∀ H μ v, RepS H μ r v → v = u) (hB : ∀ b o v, B b o = some v → w.cell? ⟨b, o, none⟩ = some v) (hS : ∀ b, B.size b ≤ blkSize w b) (hK : ∀ b o, B.blk b = some o → w.heap[b]? = some o) :
  Calls P f vs.toArray w fun e w' => e = .returned u ∧ RowKit.Below w.heap.size w w' := by
 refine (h.calls (worldH w) ⟨fun b => b < w.heap.size, fun _ => none, B⟩ w (fun _ => none) vs rfl hargs.len ?_).mono ?_
 ·have hob : ∀ o, (conSt args [] []).ob o = none := by intro o; rw [conSt_ob]; cases o with | sub t j => cases t <;> simp | _ => simp
  have htm : ∀ t sz xs, (conSt args [] []).tm t ≠ .own sz xs := by
   intro t sz xs e
   rw [conSt_tm] at e
   cases hq : args[t]? with
   | none => rw [hq] at e; simp at e
   | some x => rw [hq] at e; simp at e; have := hno x (List.mem_of_getElem? hq); rw [e] at this; simp [V.isOwn] at this
  have hat : ∀ ℓ sz xs v, ¬ atL (fun _ => none) (conSt args [] []) (argTm vs) w ℓ (.own sz xs) v := by
   intro ℓ sz xs v hl
   cases ℓ with
   | t m => exact htm _ _ _ hl.1
   | o o j => obtain ⟨_, _, _, hl, _⟩ := hl; rw [hob] at hl; simp at hl
  have hlv : ∀ o b, live (conSt args [] []) (fun _ => none) o ≠ some b := by intro o b hb; have := (live_some hb).1; simp at this
  refine ⟨fun t => ?_, fun _ _ _ h => h, fun _ => Nat.le_refl _, fun _ _ => rfl, fun o x hx => by rw [hob] at hx; simp at hx, fun o _ b hb => absurd hb (hlv o b), fun o b hb => absurd hb (hlv o b), fun o b hb => absurd hb (hlv o b), ⟨fun b hb => hb, fun b o ho => ⟨blk_lt (hK b o ho), hK b o ho⟩⟩, fun ℓ sz xs b off n c hl => absurd hl (hat _ _ _ _),
   fun ℓ ℓ' b ⟨sz, xs, off, n, c, hl⟩ => absurd hl (hat _ _ _ _), fun j hj => absurd (hob _) hj, ⟨hB, hS⟩⟩
  rw [conSt_tm]
  cases hq : args[t]? with
  | none => exact .two _ _ (.one _ _ (.any _))
  | some x =>
   obtain ⟨hlt, rfl⟩ := List.getElem?_eq_some_iff.1 hq
   have hlt' : t < vs.length := by rw [← hargs.len]; exact hlt
   simpa [argTm, hlt'] using hargs.get t hlt hlt'
 ·rintro e w' ⟨v, H', μ', F', rfl, _, _, _, hrel, hx⟩
  have := hrel.env 0
  rw [conSt_tm] at this
  simp [upd] at this
  refine ⟨by rw [hr _ _ _ this], hx.io.1, hx.io.2.1, hx.io.2.2, hx.size, fun k hk => hx.frm k hk hk⟩
end Go.Ax
set_option linter.unusedVariables false
set_option linter.unusedSimpArgs false
namespace Go.Ax
/-! ### contracts in a table, as functions -/
abbrev Sp := List V → List Ob → Option (V × List Ob × List Ob)
def lookS : List (FuncId × Sp) → FuncId → Sp
 | [], _ => fun _ _ => none
 | (g, s) :: r, f => if g = f then s else lookS r f
def ofS (S : List (FuncId × Sp)) : Orc := fun f args objs r objs' news => lookS S f args objs = some (r, objs', news)
def SOk (P : Program) (B : Heap) (S : List (FuncId × Sp)) : Prop := ∀ f args objs r objs' news, ofS S f args objs r objs' news → COk P B f args objs r objs' news
def FnOk (P : Program) (B : Heap) (f : FuncId) (s : Sp) : Prop := ∀ args objs r objs' news, s args objs = some (r, objs', news) → COk P B f args objs r objs' news
theorem SOk.nil {P B} : SOk P B [] := fun _ _ _ _ _ _ h => by simp [ofS, lookS] at h
theorem SOk.cons {P B S f s} (h1 : FnOk P B f s) (h : SOk P B S) : SOk P B ((f, s) :: S) := fun g args objs r objs' news hg => by
 simp only [ofS, lookS] at hg
 split at hg
 ·rename_i e; subst e; exact h1 _ _ _ _ _ hg
 ·exact h _ _ _ _ _ _ hg
section
variable {C C' : Orc} (hC : ∀ f a o r o' n, C f a o r o' n → C' f a o r o' n)
include hC
theorem runA_orc {h : Hint} {Q Q' : St → Prop} (hq : ∀ st, Q st → Q' st) : ∀ (l : List AO) {st : St}, runA C h l st Q → runA C' h l st Q' := by
 intro l
 induction l with
 | nil => intro st hr; simp only [runA] at hr ⊢; exact hq _ hr
 | cons o r ih =>
  intro st hr
  have step : ∀ x, resK C h r st Q x → resK C' h r st Q' x := by
   intro x
   rcases x with _ | (l | ⟨f, args, objs, nw, w⟩)
   ·intro h; simp [resK] at h
   ·intro h; simp only [resK] at h ⊢; exact ih h
   ·intro h
    simp only [resK, CallA] at h ⊢
    obtain ⟨a, b, c, h1, h0, h2⟩ := h
    exact ⟨a, b, c, hC _ _ _ _ _ _ h1, h0, ih h2⟩
  obtain ⟨g, d, k⟩ := o
  rcases g with _ | ⟨t, b⟩
  ·simp only [runA] at hr ⊢; exact step _ hr
  ·simp only [runA] at hr ⊢
   cases htm : st.tm t <;> rw [htm] at hr <;> simp only [brV] at hr ⊢
   rotate_left
   ·rename_i vs
    cases vs with
    | nil => exact ih hr
    | cons _ _ => exact hr
   cases b
   ·exact ⟨fun hx => ih (hr.1 hx), fun hx => step _ (hr.2 hx)⟩
   ·exact ⟨fun hx => step _ (hr.1 hx), fun hx => ih (hr.2 hx)⟩
theorem runB_orc {h : Hint} {n : Nat} {ps : List (Nat × Nat)} {Q Q' : St → Prop} (hq : ∀ st, Q st → Q' st) : ∀ (l : List AO) {st : St} {fs : List Foot}, runB C h n ps l st fs Q → runB C' h n ps l st fs Q' := by
 intro l
 induction l with
 | nil => intro st fs hr; simp only [runB] at hr ⊢; exact ⟨hr.1, hq _ hr.2⟩
 | cons o r ih =>
  intro st fs hr
  have step : ∀ rs x, resB C h n ps r st fs Q rs x → resB C' h n ps r st fs Q' rs x := by
   intro rs x
   rcases x with _ | (l | ⟨f, args, objs, nw, w⟩)
   ·intro h; simp [resB] at h
   ·intro h; simp only [resB] at h ⊢; exact ih h
   ·intro h
    simp only [resB, CallA] at h ⊢
    obtain ⟨a, b, c, h1, h0, h2⟩ := h
    exact ⟨a, b, c, hC _ _ _ _ _ _ h1, h0, ih h2⟩
  obtain ⟨g, d, k⟩ := o
  rcases g with _ | ⟨t, b⟩
  ·simp only [runB] at hr ⊢; exact step _ _ hr
  ·simp only [runB] at hr ⊢
   cases htm : st.tm t <;> rw [htm] at hr <;> simp only [brV] at hr ⊢
   rotate_left
   ·rename_i vs
    cases vs with
    | nil => exact ih hr
    | cons _ _ => exact hr
   cases b
   ·exact ⟨fun hx => ih (hr.1 hx), fun hx => step _ _ (hr.2 hx)⟩
   ·exact ⟨fun hx => step _ _ (hr.1 hx), fun hx => ih (hr.2 hx)⟩
theorem acwp_orc : ∀ (c : AC) {st : St} {Q Q' : X → St → Prop}, (∀ e st, Q e st → Q' e st) → acwp C c st Q → acwp C' c st Q' := by
 intro c
 induction c with
 | skip => intro st Q Q' hq hr; exact hq _ _ hr
 | ret => intro st Q Q' hq hr; exact hq _ _ hr
 | exit id => intro st Q Q' hq hr; exact hq _ _ hr
 | seq a b iha ihb =>
  intro st Q Q' hq hr
  simp only [acwp] at hr ⊢
  refine iha (fun e st he => ?_) hr
  cases e with
  | normal => exact ihb hq he
  | ret => exact hq _ _ he
  | exit i => exact hq _ _ he
 | cond v a b iha ihb =>
  intro st Q Q' hq hr
  simp only [acwp] at hr ⊢
  cases hv : v.val st <;> rw [hv] at hr <;> simp only [condV] at hr ⊢
  exact ⟨fun e => iha hq (hr.1 e), fun e => ihb hq (hr.2 e)⟩
 | block id a iha =>
  intro st Q Q' hq hr
  simp only [acwp] at hr ⊢
  refine iha (fun e st he => ?_) hr
  cases e with
  | normal => exact hq _ _ he
  | ret => exact hq _ _ he
  | exit i =>
   simp only [leaveA] at he ⊢
   split at he <;> rename_i hi
   ·rw [if_pos hi]; exact hq _ _ he
   ·rw [if_neg hi]; exact hq _ _ he
 | loop l a iha =>
  intro st Q Q' hq hr
  simp only [acwp] at hr ⊢
  obtain ⟨n, hn⟩ := hr
  refine ⟨n, ?_⟩
  induction n generalizing st with
  | zero => exact hn.elim
  | succ n ih =>
   simp only [iter] at hn ⊢
   refine iha (fun e st he => ?_) hn
   cases e with
   | normal => exact ih he
   | ret => exact hq _ _ he
   | exit i => exact hq _ _ he
 | reg l ops => intro st Q Q' hq hr; exact runA_orc hC (hq .normal) _ hr
 | regD l ps ops => intro st Q Q' hq hr; exact runB_orc hC (hq .normal) _ hr
end
def callV (x : Option (V × List Ob × List Ob)) (nw : Nat) (K : V → List Ob → List Ob → Prop) : Prop :=
 match x with
 | some (r, o, n) => n.length ≤ nw ∧ K r o n
 | none => False
@[simp] theorem callV_some (r : V) (o n : List Ob) (nw : Nat) (K : V → List Ob → List Ob → Prop) : callV (some (r, o, n)) nw K = (n.length ≤ nw ∧ K r o n) := rfl
@[simp] theorem callA_ofS (S : List (FuncId × Sp)) (f : FuncId) (args : List V) (objs : List Ob) (nw : Nat) (K : V → List Ob → List Ob → Prop) : CallA (ofS S) f args objs nw K = callV (lookS S f args objs) nw K := by
 unfold CallA ofS callV
 cases lookS S f args objs with
 | none => simp
 | some x =>
  obtain ⟨r, o, n⟩ := x
  apply propext
  constructor
  ·rintro ⟨_, _, _, h, h2⟩; simp at h; obtain ⟨rfl, rfl, rfl⟩ := h; exact h2
  ·intro h; exact ⟨_, _, _, rfl, h⟩
@[simp] theorem lookS_cons (g : FuncId) (s : Sp) (r : List (FuncId × Sp)) (f : FuncId) : lookS ((g, s) :: r) f = if g = f then s else lookS r f := rfl
theorem viaS {P : Program} {B : Heap} {S : List (FuncId × Sp)} (hS : SOk P B S) {c : AC} {st : St} {Q : X → St → Prop} (h : acwp (ofS S) c st Q) : acwp (COk P B) c st Q :=
 acwp_orc (fun f a o r o' n => hS f a o r o' n) c (fun _ _ h => h) h
end Go.Ax
